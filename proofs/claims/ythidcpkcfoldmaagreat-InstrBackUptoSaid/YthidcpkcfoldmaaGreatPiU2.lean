/- What the law rests on, part 3 of 6: a reading of the program's code over told data, and what it comes to. -/
import Derived.Test.YthidcpkcfoldmaaGreatPiU1
set_option linter.unusedVariables false
set_option linter.unusedSimpArgs false
set_option maxRecDepth 100000
namespace Go.Proofs.YthidcpkcfoldmaaGreat.Pi
variable {P : Program} {X : ExtT} {H : Heap}
def XSound (P : Program) (X : ExtT) : Prop :=
  ∀ f m, X f = some m → ∀ args H out, m args H = some out → u7a P f = true ∧ ∀ g w cargs, Inv g H w → ArgsOk g args cargs → Calls P f cargs w (u6u g w out)
theorem utp (hX : XSound P X) (n : Nat) : CSound P (sem P X n).C ∧ un1 P (sem P X n).CD := by
  induction n using Nat.strongRecOn with
  | _ n ih =>
    cases n with
    | zero => exact ⟨fun f args H out h => (u05 (H := H) h).elim, fun rv f args H out h => (u05 (H := H) h).elim⟩
    | succ n =>
      have hn := ih n (Nat.lt_succ_self n)
      refine ⟨fun f args H out h => ?_, fun rv f args H out h => um9 hn.1 h⟩
      have h : (match X f with | some m => m args | none => fnDen P (sem P X n).C (sem P X n).CD (sem P X n).L f args) H = some out := h
      cases hf : X f with
      | some m => rw [hf] at h; exact hX f m hf args H out h
      | none =>
        rw [hf] at h
        exact uo5 hn.1 hn.2 (fun fn => uqz n (fun m hm => (ih m (by omega)).1) _ _ _ (fun m hm r f a => utq m r f a (by omega)) n (Nat.le_refl n)) h
theorem uo8 (hX : XSound P X) : CSound P (callW P X) := by
  intro f args H out h
  obtain ⟨n, hn⟩ := ((ufi P X f args).lim H out).mp h
  exact (utp hX n).1 f args H out hn
theorem noX : XSound P (fun _ => none) := fun f m h => by cases h
end Go.Proofs.YthidcpkcfoldmaaGreat.Pi
namespace Go.Proofs.YthidcpkcfoldmaaGreat.Pi
noncomputable def kAt (c : Ctx) (L : LoopT) : List Nat → List Tmp → Code → K → List Tmp × Code × K
  | [], af, co, k => (af, co, k)
  | 0 :: p, af, .seq a b, k => kAt c L p ((rw b).1 ++ af) a fun
    | .normal, env' => bif c.rc.isNone && joinB a then L af b (keep ((rw b).1 ++ af) env') k else den c L af b env' k
    | e, env' => k e env'
  | _ :: p, af, .seq a b, k => kAt c L p af b k
  | 0 :: p, af, .cond _ a b, k => kAt c L p af a k
  | _ :: p, af, .cond _ a b, k => kAt c L p af b k
  | _ :: p, af, .block id b, k => kAt c L p af b fun
    | .exit i, env' => bif i == id then k .normal env' else k (.exit i) env'
    | e, env' => k e env'
  | _ :: p, af, .loop b, k => kAt c L p (alive af b) b fun
    | .normal, env' => L af (.loop b) (keep (alive af b) env') k
    | e, env' => k e env'
  | _, af, co, k => (af, co, k)
section
variable (P : Program) (X : ExtT)
noncomputable def kOf (f : FuncId) (p : List Nat) : List Tmp × Code × K :=
  match P.funcs[f]? with
  | some fn => match fn.body with
    | some b => kAt (ctxW P X none (protOf fn) (resM P fn)) (loopW P X none (protOf fn) (resM P fn)) p (ucq fn) b fun
      | .exit _, _ => M.fail
      | _, env => resM P fn env
    | none => ([], .skip, fun _ _ => M.fail)
  | none => ([], .skip, fun _ _ => M.fail)
noncomputable def ctxOf (f : FuncId) : Ctx :=
  match P.funcs[f]? with
  | some fn => ctxW P X none (protOf fn) (resM P fn)
  | none => ctxW P X none [] (fun _ => M.fail)
noncomputable def atP (f : FuncId) (p : List Nat) (env : Env) : M PV :=
  loopW P X none (ctxOf P X f).prot (ctxOf P X f).res (kOf P X f p).1 (kOf P X f p).2.1 env (kOf P X f p).2.2
noncomputable def stepP (f : FuncId) (p : List Nat) (env : Env) : M PV :=
  go1 (ctxW P X none (ctxOf P X f).prot (ctxOf P X f).res) (loopW P X none (ctxOf P X f).prot (ctxOf P X f).res) (kOf P X f p).1 (kOf P X f p).2.1 env (kOf P X f p).2.2
theorem u0j (f : FuncId) (p : List Nat) (env : Env) : atP P X f p env = stepP P X f p env := uxd P X none _ _ _ _ _ _
def mkEnv : Nat → Nat → List (Nat × PV) → Env
  | 0, _, _ => []
  | n + 1, i, (j, v) :: r => bif i == j then v :: mkEnv n (i + 1) r else .undef :: mkEnv n (i + 1) ((j, v) :: r)
  | n + 1, i, [] => .undef :: mkEnv n (i + 1) []
end
end Go.Proofs.YthidcpkcfoldmaaGreat.Pi
namespace Go.Proofs.YthidcpkcfoldmaaGreat.Pi
theorem nrfl {γ : Sort _} {a b : γ} (h : a = b) : a = b := h
variable {α β : Type} {H : Heap} {k : IntKind} {a b n m : Int} {x y : PV} {ek : EqK}
@[simp] theorem um8 : strip (.int k n) = .int k n := nrfl rfl
@[simp] theorem uhx {t : Bool} : strip (.bool t) = .bool t := nrfl rfl
@[simp] theorem uk9 {s : ByteArray} : strip (.str s) = .str s := nrfl rfl
@[simp] theorem ufn {o z : Bool} {sz : Nat} {xs : List PV} : strip (.slice o z sz xs) = .slice false z sz xs := nrfl rfl
@[simp] theorem ulm {i o : Nat} : strip (.ptr i o) = .ptr i o := nrfl rfl
@[simp] theorem uko {cs : List PV} : strip (.agg cs) = .agg cs := nrfl rfl
@[simp] theorem uid {cs : List PV} : strip (.elem cs) = .elem cs := nrfl rfl
@[simp] theorem ump : strip .nil = .nil := nrfl rfl
@[simp] theorem uaq : strip .niliface = .niliface := nrfl rfl
@[simp] theorem ugu {t : TypeId} {v : PV} : strip (.iface t v) = .iface t v := nrfl rfl
@[simp] theorem upc {f : FuncId} {u v : List PV} : strip (.fn f u v) = .fn f u v := nrfl rfl
@[simp] theorem ugx : strip .undef = .undef := nrfl rfl
@[simp] theorem uk8 {vs : List PV} : strip (.tup vs) = .tup (vs.map stripC) := nrfl rfl
@[simp] theorem uij : stripC (.int k n) = .int k n := nrfl rfl
@[simp] theorem ugo {t : Bool} : stripC (.bool t) = .bool t := nrfl rfl
@[simp] theorem ui8 {s : ByteArray} : stripC (.str s) = .str s := nrfl rfl
@[simp] theorem ue1 {o z : Bool} {sz : Nat} {xs : List PV} : stripC (.slice o z sz xs) = .slice false z sz xs := nrfl rfl
@[simp] theorem uig {i o : Nat} : stripC (.ptr i o) = .ptr i o := nrfl rfl
@[simp] theorem uia {cs : List PV} : stripC (.agg cs) = .agg cs := nrfl rfl
@[simp] theorem uie : stripC .nil = .nil := nrfl rfl
@[simp] theorem u9g : stripC .niliface = .niliface := nrfl rfl
@[simp] theorem udm {t : TypeId} {v : PV} : stripC (.iface t v) = .iface t v := nrfl rfl
@[simp] theorem umr {f : FuncId} {u v : List PV} : stripC (.fn f u v) = .fn f u v := nrfl rfl
@[simp] theorem bi_add : bi .add ek (.int k a) (.int k b) = M.pure (.int k (k.wrap (a + b))) := nrfl (by cases k <;> rfl)
@[simp] theorem bi_sub : bi .sub ek (.int k a) (.int k b) = M.pure (.int k (k.wrap (a - b))) := nrfl (by cases k <;> rfl)
@[simp] theorem bi_mul : bi .mul ek (.int k a) (.int k b) = M.pure (.int k (k.wrap (a * b))) := nrfl (by cases k <;> rfl)
@[simp] theorem bi_eql : bi .eql ek (.int k a) (.int k b) = M.pure (.bool (a == b)) := nrfl (by cases k <;> rfl)
@[simp] theorem bi_neq : bi .neq ek (.int k a) (.int k b) = M.pure (.bool (a != b)) := nrfl (by cases k <;> rfl)
@[simp] theorem bi_lss : bi .lss ek (.int k a) (.int k b) = M.pure (.bool (decide (a < b))) := nrfl (by cases k <;> rfl)
@[simp] theorem bi_leq : bi .leq ek (.int k a) (.int k b) = M.pure (.bool (decide (a ≤ b))) := nrfl (by cases k <;> rfl)
@[simp] theorem bi_gtr : bi .gtr ek (.int k a) (.int k b) = M.pure (.bool (decide (a > b))) := nrfl (by cases k <;> rfl)
@[simp] theorem bi_geq : bi .geq ek (.int k a) (.int k b) = M.pure (.bool (decide (a ≥ b))) := nrfl (by cases k <;> rfl)
@[simp] theorem unc {s t : ByteArray} : bi .eql ek (.str s) (.str t) = M.pure (.bool (s.toList == t.toList)) := nrfl rfl
@[simp] theorem utx {s t : ByteArray} : bi .neq ek (.str s) (.str t) = M.pure (.bool (!(s.toList == t.toList))) := nrfl rfl
@[simp] theorem ujh {s t : Bool} : bi .eql .bool (.bool s) (.bool t) = M.pure (.bool (s == t)) := nrfl rfl
@[simp] theorem uw1 {s t : Bool} : bi .neq .bool (.bool s) (.bool t) = M.pure (.bool (!(s == t))) := nrfl rfl
@[simp] theorem un_not {t : Bool} : un .not (.bool t) = M.pure (.bool (!t)) := nrfl rfl
@[simp] theorem ukk {o z : Bool} {sz : Nat} {xs : List PV} : lnL (.slice o z sz xs) = M.pure (.int .i64 xs.length) := nrfl rfl
@[simp] theorem uw7 {s : ByteArray} : lnS (.str s) = M.pure (.int .i64 s.size) := nrfl rfl
@[simp] theorem mx_int : mx (.int k a) (.int k b) = M.pure (.int k (if b > a then b else a)) := nrfl (by cases k <;> rfl)
@[simp] theorem mn_int : mn (.int k a) (.int k b) = M.pure (.int k (if b < a then b else a)) := nrfl (by cases k <;> rfl)
@[simp] theorem cv_int {o : Bool} {j : IntKind} : cv (.int k) o (.int j n) = M.pure (.int k (k.wrap n)) := nrfl rfl
@[simp] theorem v00u {v : PV} {r : List PV} : ex 0 (.tup (v :: r)) = M.pure v := nrfl rfl
@[simp] theorem v00v {u v : PV} {r : List PV} : ex 1 (.tup (u :: v :: r)) = M.pure v := nrfl rfl
@[simp] theorem v00w {t u v : PV} {r : List PV} : ex 2 (.tup (t :: u :: v :: r)) = M.pure v := nrfl rfl
theorem ui1 {m : M PV} {v : PV} (h : m H = some (.ok v H)) : trunc m H = some (.ok v H) := by
  unfold trunc
  rw [h]
  cases v.low H.length <;> simp
end Go.Proofs.YthidcpkcfoldmaaGreat.Pi
namespace Go.Proofs.YthidcpkcfoldmaaGreat.Pi
variable {P : Program} {X : ExtT}
def gOf (im : Nat → Nat → Option Value) : G := ⟨[], im, fun _ => none⟩
theorem uze {im : Nat → Nat → Option Value} {w : World} (him : ∀ b o v, im b o = some v → w.cell? ⟨b, o, none⟩ = some v) : Inv (gOf im) [] w :=
  ⟨rfl, fun i j b h => by simp [gOf] at h, him, fun b L s h => by simp [gOf] at h, fun id b y h => by simp [gOf] at h⟩
theorem walk_law (hX : XSound P X) {f : FuncId} {args : List PV} {H' : Heap} (h : callW P X f args [] = some (.ok (.bool true) H')) {im : Nat → Nat → Option Value} {w : World} {cargs : Array Value}
    (him : ∀ b o v, im b o = some v → w.cell? ⟨b, o, none⟩ = some v) (ha : ArgsOk (gOf im) args cargs) : Calls P f cargs w fun e w' => e = .returned (.bool true) ∧ RowKit.Below w.heap.size w w' := by
  obtain ⟨_, hs⟩ := uo8 hX f args [] _ h
  refine (hs (gOf im) w cargs (uze him) ha).mono ?_
  rintro e w' ⟨g', hgl, hgr, cv, rfl, hi, hr⟩
  have hv : cv = .bool true := by
    cases hr with
    | one hr => cases hr with
      | pure hr => cases hr with
        | flat hr => cases hr; rfl
  subst hv
  exact ⟨rfl, hgl.os, hgl.tape, hgl.output, hgl.size, fun k hk => (hgl.old k hk rfl (by simp [gOf])).2.2⟩
end Go.Proofs.YthidcpkcfoldmaaGreat.Pi
namespace Go.Proofs.YthidcpkcfoldmaaGreat.Pi
variable {α β : Type} {H : Heap} {k j : IntKind} {a b n m : Int} {x y : PV} {ek : EqK}
def resT (v : PV) (m : M PV) : M PV := bif isTup v then M.fail else m
def hget (H : Heap) (id : Nat) : Option Box := H[id]?
def hset (H : Heap) (id : Nat) (b : Box) : Heap := H.set id b
def hadd (H : Heap) (L : List Box) : Heap := H ++ L
def hcut (H : Heap) (n : Nat) : Heap := H.take n
abbrev hlen (H : Heap) : Nat := List.length H
def run (m : M α) (H : Heap) : Option (Out α) := m H
def bindR (r : Option (Out α)) (f : α → M β) : Option (Out β) :=
  match r with
  | none => none
  | some (.ok v H) => run (f v) H
  | some (.pan v H) => some (.pan v H)
def truncR (H : Heap) (r : Option (Out PV)) : Option (Out PV) :=
  match r with
  | none => none
  | some (.ok v H') => some (.ok v (bif v.low H.length then hcut H' H.length else H'))
  | some (.pan v H') => bif v.low H.length then some (.pan v (hcut H' H.length)) else none
noncomputable def nbR (H : Heap) (r : Option (Out α)) (f : α → M β) : Option (Out β) := nb (fun _ => r) f H
@[congr] theorem v00j {r r' : Option (Out α)} {f : α → M β} (h : r = r') : bindR r f = bindR r' f := by rw [h]
@[congr] theorem v00s {r r' : Option (Out α)} {f : α → M β} (h : r = r') : nbR H r f = nbR H r' f := by rw [h]
@[congr] theorem v003 {c c' : PV} {x y : M α} (h : c = c') : condM c x y = condM c' x y := by rw [h]
@[congr] theorem uys {c c' : Bool} {x : M α} (h : c = c') : guardM c x = guardM c' x := by rw [h]
@[congr] theorem v00p {c c' : PV} {x : M PV} (h : c = c') : resT c x = resT c' x := by rw [h]
theorem run_bind {m : M α} {f : α → M β} : run (M.bind m f) H = bindR (run m H) f := nrfl rfl
theorem uq2 {f : α → M β} {v : α} {H : Heap} : bindR (some (.ok v H)) f = run (f v) H := nrfl rfl
theorem uhq {f : α → M β} : bindR none f = none := nrfl rfl
theorem umf {f : α → M β} {v : PV} {H : Heap} : bindR (some (.pan v H)) f = some (.pan v H) := nrfl rfl
theorem ulk {c : Prop} [Decidable c] {r r' : Option (Out α)} {f : α → M β} : bindR (if c then r else r') f = if c then bindR r f else bindR r' f := by split <;> rfl
theorem run_nb {m : M α} {f : α → M β} : run (nb m f) H = nbR H (run m H) f := nrfl rfl
theorem nbR_ok {f : α → M β} {v : α} : nbR H (some (.ok v H)) f = run (f v) H := by simp [nbR, nb, run]
theorem utj {c : Prop} [Decidable c] {r r' : Option (Out α)} {f : α → M β} : nbR H (if c then r else r') f = if c then nbR H r f else nbR H r' f := by split <;> rfl
theorem ufp {m : M PV} : run (trunc m) H = truncR H (run m H) := nrfl rfl
theorem uhr {c : Prop} [Decidable c] {r r' : Option (Out PV)} : truncR H (if c then r else r') = if c then truncR H r else truncR H r' := by split <;> rfl
theorem ugw : truncR H none = none := nrfl rfl
theorem ulw {v : PV} {H' : Heap} : truncR H (some (.ok v H')) = some (.ok v (if v.low H.length = true then hcut H' H.length else H')) := by
  show some (Out.ok v (bif v.low H.length then hcut H' H.length else H')) = _
  cases v.low H.length <;> rfl
theorem ucm {v : PV} {H' : Heap} : truncR H (some (.pan v H')) = if v.low H.length = true then some (.pan v (hcut H' H.length)) else none := by
  show (bif v.low H.length then some (Out.pan v (hcut H' H.length)) else none) = _
  cases v.low H.length <;> rfl
theorem ul0 {c : Bool} {m : M α} : run (guardM c m) H = if c = true then run m H else none := by cases c <;> rfl
theorem up7 {v : PV} {m : M PV} : run (resT v m) H = if isTup v = true then none else run m H := by unfold resT; cases isTup v <;> rfl
theorem upa {c : Bool} {x y : M α} : run (condM (.bool c) x y) H = if c = true then run x H else run y H := by cases c <;> rfl
theorem uuk {c : Bool} {m : M PV} : run (gd (.bool c) true m) H = if c = true then run m H else some (.ok (.tup []) H) := by cases c <;> rfl
theorem uta {c : Bool} {m : M PV} : run (gd (.bool c) false m) H = if c = true then some (.ok (.tup []) H) else run m H := by cases c <;> rfl
theorem ui9 : strip (.tup []) = .tup [] := nrfl rfl
theorem usr {b : Bool} {m : M PV} : run (gd (.tup []) b m) H = some (.ok (.tup []) H) := nrfl rfl
theorem uqo {c : Bool} : run (pick (.bool c) x y) H = if c = true then some (.ok (strip x) H) else some (.ok (strip y) H) := by cases c <;> rfl
theorem run_pure {v : α} : run (M.pure v) H = some (.ok v H) := nrfl rfl
theorem ut7 {v : PV} : run (M.pan v : M α) H = some (.pan v H) := nrfl rfl
theorem upx : run (M.fail : M α) H = none := nrfl rfl
theorem run_al {cs : List PV} : run (al cs) H = if cs.all isCell = true then some (.ok (.ptr H.length 0) (hadd H [.cells cs])) else none := by unfold run al; cases cs.all isCell <;> rfl
theorem run_bx {n : Nat} {v : PV} : run (bx n v) H = if (v.cells.map stripC).length = n ∧ lowL (H.length + 1) (v.cells.map stripC) = true ∧ v.cells.all isCell = true then some (.ok (.ptr H.length 0) (hadd H [.cells (v.cells.map stripC)])) else none := by
  unfold run bx
  cases h1 : ((v.cells.map stripC).length == n) <;> cases h2 : lowL (H.length + 1) (v.cells.map stripC) <;> cases h3 : v.cells.all isCell <;> simp_all [hadd]
theorem uan (a b : Nat) : (a == b) = decide (a = b) := by rw [Bool.eq_iff_iff]; simp
def ldB (n : Option Nat) (mv : Bool) (id o : Nat) (H : Heap) : Option Box → Option (Out PV)
  | some (.cells cs) => match n with
      | none => match cs[o]? with
        | some v => bif mv then some (.ok v (hset H id (.cells (cs.set o (stripC v))))) else some (.ok (stripC v) H)
        | none => none
      | some n => bif decide (o + n ≤ cs.length) then some (.ok (.agg (((cs.drop o).take n).map stripC)) H) else none
  | _ => none
theorem run_ld {n : Option Nat} {mv : Bool} {id o : Nat} : run (ld n mv (.ptr id o)) H = ldB n mv id o H (hget H id) := by
  unfold run ld ldB
  rfl
def stB (n : Nat) (mv : Bool) (id o : Nat) (v : PV) (H : Heap) : Option Box → Option (Out PV)
  | some (.cells cs) => bif v.cells.length == n && (decide (o + n ≤ cs.length) && (lowL (id + 1) v.cells && v.cells.all isCell)) then
        some (.ok .undef (hset H id (.cells (fillAt o (bif mv then v.cells else v.cells.map stripC) cs))))
      else none
  | _ => none
theorem run_st {n : Nat} {mv : Bool} {id o : Nat} {v : PV} : run (st n mv (.ptr id o) v) H = stB n mv id o v H (hget H id) := by
  unfold run st stB
  rfl
theorem uol {n : Nat} {mv : Bool} {id o : Nat} {cs : List PV} : ldB (some n) mv id o H (some (.cells cs)) = if o + n ≤ cs.length then some (.ok (.agg (((cs.drop o).take n).map stripC)) H) else none := by
  show (bif decide (o + n ≤ cs.length) then some (Out.ok (PV.agg (((cs.drop o).take n).map stripC)) H) else none) = _
  by_cases h : o + n ≤ cs.length <;> simp [h]
def nth : List α → Nat → Option α
  | [], _ => none
  | v :: _, 0 => some v
  | _ :: r, n + 1 => nth r n
theorem ued {v : α} {r : List α} : nth (v :: r) 0 = some v := nrfl rfl
theorem upu {v : α} {r : List α} {n : Nat} : nth (v :: r) (n + 1) = nth r n := nrfl rfl
theorem nth_is : ∀ (l : List α) (n : Nat), l[n]? = nth l n
  | [], _ => rfl
  | _ :: _, 0 => rfl
  | _ :: r, n + 1 => nth_is r n
def ldTR (H : Heap) (id : Nat) (cs : List PV) (o : Nat) : Option PV → Option (Out PV)
  | some v => some (.ok v (hset H id (.cells (cs.set o (stripC v)))))
  | none => none
def ldFR (H : Heap) : Option PV → Option (Out PV)
  | some v => some (.ok (stripC v) H)
  | none => none
theorem ul7 {id : Nat} {cs : List PV} {o : Nat} {v : PV} : ldTR H id cs o (some v) = some (.ok v (hset H id (.cells (cs.set o (stripC v))))) := nrfl rfl
theorem umd {v : PV} : ldFR H (some v) = some (.ok (stripC v) H) := nrfl rfl
theorem ldB_t {id o : Nat} {cs : List PV} : ldB none true id o H (some (.cells cs)) = ldTR H id cs o (nth cs o) := by
  rw [← nth_is]; rfl
theorem ldB_f {id o : Nat} {cs : List PV} : ldB none false id o H (some (.cells cs)) = ldFR H (nth cs o) := by
  rw [← nth_is]; rfl
theorem stB_is {n : Nat} {mv : Bool} {id o : Nat} {v : PV} {cs : List PV} :
    stB n mv id o v H (some (.cells cs)) = if v.cells.length = n ∧ o + n ≤ cs.length ∧ lowL (id + 1) v.cells = true ∧ v.cells.all isCell = true then some (.ok .undef (hset H id (.cells (fillAt o (if mv = true then v.cells else v.cells.map stripC) cs)))) else none := by
  show (bif v.cells.length == n && (decide (o + n ≤ cs.length) && (lowL (id + 1) v.cells && v.cells.all isCell)) then some (Out.ok PV.undef (hset H id (.cells (fillAt o (bif mv then v.cells else v.cells.map stripC) cs)))) else none) = _
  cases hb : v.cells.all isCell <;> cases hc : lowL (id + 1) v.cells <;> by_cases h1 : v.cells.length = n <;> by_cases h2 : o + n ≤ cs.length <;> cases mv <;> simp [h1, h2, uan (v.cells.length) n]
theorem uq9 {mv : Bool} {cs : List PV} {c : PV} : run (ld none mv (.elem (c :: cs))) H = some (.ok c H) := nrfl rfl
theorem uoa {mv : Bool} {n : Nat} {cs : List PV} : run (ld (some n) mv (.elem cs)) H = if n ≤ cs.length then some (.ok (.agg (cs.take n)) H) else none := by
  show (bif decide (n ≤ cs.length) then M.pure (PV.agg (cs.take n)) else M.fail) H = _
  by_cases h : n ≤ cs.length <;> simp [h, M.pure, M.fail]
theorem ubi {L : List Box} (k : Nat) : hget (hadd H L) (H.length + k) = nth L k := by unfold hget hadd; rw [List.getElem?_append_right (Nat.le_add_right _ _), Nat.add_sub_cancel_left, nth_is]
theorem u7y {L : List Box} : hget (hadd H L) H.length = nth L 0 := ubi 0
theorem ud1 {L : List Box} {i : Nat} (h : i < H.length) : hget (hadd H L) i = hget H i := List.getElem?_append_left h
theorem ub3 {L : List Box} {x : Box} (k : Nat) : hset (hadd H L) (H.length + k) x = hadd H (L.set k x) := by unfold hset hadd; rw [List.set_append_right _ _ (Nat.le_add_right _ _), Nat.add_sub_cancel_left]
theorem uiv {L : List Box} {x : Box} : hset (hadd H L) H.length x = hadd H (L.set 0 x) := ub3 0
theorem ufv {L : List Box} {i : Nat} {x : Box} (h : i < H.length) : hset (hadd H L) i x = hadd (hset H i x) L := List.set_append_left _ _ h
theorem ujg {i : Nat} {x : Box} (h : i < H.length) : hget (hset H i x) i = some x := by unfold hget hset; rw [List.getElem?_set_self h]
theorem ury {i k : Nat} {x : Box} (h : i ≠ k) : hget (hset H i x) k = hget H k := List.getElem?_set_ne h
theorem set_set {i : Nat} {x y : Box} : hset (hset H i x) i y = hset H i y := List.set_set _
theorem uj1 {L K : List Box} : hadd (hadd H L) K = hadd H (L ++ K) := List.append_assoc _ _ _
theorem uo7 {A L : List Box} {n : Nat} (h : n = A.length) : hcut (hadd A L) n = A := by subst h; simp [hcut, hadd]
theorem unf {A : List Box} {n : Nat} (h : n = A.length) : hcut A n = A := by subst h; simp [hcut]
theorem cut0 : hcut H H.length = H := unf rfl
theorem cut1 {i : Nat} {x : Box} : hcut (hset H i x) H.length = hset H i x := unf (by unfold hset; simp)
theorem cut2 {i j : Nat} {x y : Box} : hcut (hset (hset H i x) j y) H.length = hset (hset H i x) j y := unf (by unfold hset; simp)
theorem cutA0 {L : List Box} : hcut (hadd H L) H.length = H := uo7 rfl
theorem cutA1 {L : List Box} {i : Nat} {x : Box} : hcut (hadd (hset H i x) L) H.length = hset H i x := uo7 (by unfold hset; simp)
theorem cutA2 {L : List Box} {i j : Nat} {x y : Box} : hcut (hadd (hset (hset H i x) j y) L) H.length = hset (hset H i x) j y := uo7 (by unfold hset; simp)
theorem u39 {L : List Box} : List.length (hadd H L) = H.length + L.length := List.length_append
theorem u9l {i : Nat} {x : Box} : List.length (hset H i x) = H.length := List.length_set
theorem uee {L : List Box} {i : Nat} {y : Box} (k : Nat) : hget (hadd (hset H i y) L) (H.length + k) = nth L k := by
  have := ubi (H := hset H i y) (L := L) k
  rwa [u9l] at this
theorem ug2 {L : List Box} {i : Nat} {y : Box} : hget (hadd (hset H i y) L) H.length = nth L 0 := uee 0
theorem uep {L : List Box} {i : Nat} {x y : Box} (k : Nat) : hset (hadd (hset H i y) L) (H.length + k) x = hadd (hset H i y) (L.set k x) := by
  have := ub3 (H := hset H i y) (L := L) (x := x) k
  rwa [u9l] at this
theorem ug4 {L : List Box} {i : Nat} {x y : Box} : hset (hadd (hset H i y) L) H.length x = hadd (hset H i y) (L.set 0 x) := uep 0
theorem ubp {L : List Box} {i j : Nat} {y : Box} (h : i < H.length) : hget (hadd (hset H j y) L) i = hget (hset H j y) i := ud1 (by rw [u9l]; exact h)
theorem uei {L : List Box} {i j : Nat} {x y : Box} (h : i < H.length) : hset (hadd (hset H j y) L) i x = hadd (hset (hset H j y) i x) L := ufv (by rw [u9l]; exact h)
theorem get_lt {i : Nat} {x : Box} (h : hget H i = some x) : i < H.length := (List.getElem?_eq_some_iff.mp h).1
theorem u6v {i : Nat} {x : Box} (h : hget H i = some x) : hset H i x = H := by
  obtain ⟨h1, h2⟩ := List.getElem?_eq_some_iff.mp h
  unfold hset; subst h2; exact List.set_getElem_self h1
theorem w_i64 (h : -9223372036854775808 ≤ n ∧ n ≤ 9223372036854775807) : IntKind.i64.wrap n = n := by rw [IntKind.wrap_i64]; omega
theorem w_u64 (h : 0 ≤ n ∧ n ≤ 18446744073709551615) : IntKind.u64.wrap n = n := by simp only [IntKind.wrap, IntKind.signed, IntKind.bits]; simp; omega
theorem w_u8 (h : 0 ≤ n ∧ n ≤ 255) : IntKind.u8.wrap n = n := by rw [IntKind.wrap_u8]; omega
theorem w_u32 (h : 0 ≤ n ∧ n ≤ 4294967295) : IntKind.u32.wrap n = n := by rw [IntKind.wrap_u32]; omega
theorem w_i32 (h : -2147483648 ≤ n ∧ n ≤ 2147483647) : IntKind.i32.wrap n = n := by rw [IntKind.wrap_i32]; omega
theorem u87 (h : 0 ≤ b) : bi .shl ek (.int k a) (.int j b) = M.pure (.int k (k.wrap (a * 2 ^ shiftN k b))) := by
  have : ¬ b < 0 := by omega
  simp [bi, this]
theorem u9s (h : 0 ≤ b) : bi .shr ek (.int k a) (.int j b) = M.pure (.int k (a.fdiv (2 ^ shiftN k b))) := by
  have : ¬ b < 0 := by omega
  simp [bi, this]
theorem usv (h : b ≠ 0) : bi .quo ek (.int k a) (.int k b) = M.pure (.int k (k.wrap (a.tdiv b))) := by
  have h' : (b == 0) = false := by simpa using h
  cases k <;> simp [bi, intOp, h']
theorem uu2 (h : b ≠ 0) : bi .rem ek (.int k a) (.int k b) = M.pure (.int k (a.tmod b)) := by
  have h' : (b == 0) = false := by simpa using h
  cases k <;> simp [bi, intOp, h']
theorem u75 : bi .and ek (.int k a) (.int k b) = M.pure (.int k (k.wrap (BitVec.ofInt k.bits a &&& BitVec.ofInt k.bits b).toNat)) := by cases k <;> rfl
theorem run_or : bi .or ek (.int k a) (.int k b) = M.pure (.int k (k.wrap (BitVec.ofInt k.bits a ||| BitVec.ofInt k.bits b).toNat)) := by cases k <;> rfl
def iaR (H : Heap) : Option PV → Option (Out PV)
  | some x => some (.ok (.elem x.cells) H)
  | none => none
theorem uod {x : PV} : iaR H (some x) = some (.ok (.elem x.cells) H) := nrfl rfl
theorem ub0 {o z : Bool} {sz : Nat} {xs : List PV} (h0 : 0 ≤ n) : run (iaS sz (.slice o z sz xs) (.int k n)) H = iaR H xs[n.toNat]? := by
  unfold iaS iaR run
  have h' : decide (0 ≤ n) = true := by simpa using h0
  simp only [h', beq_self_eq_true, Bool.and_self, cond_true, u4m, M.fail, M.pure]
  split <;> rename_i h <;> simp only [h] <;> rfl
theorem run_fa {off id o : Nat} : fa off (.ptr id o) = M.pure (.ptr id (o + off)) := nrfl rfl
theorem uvz {off : Nat} {cs : List PV} : fa off (.elem cs) = M.pure (.elem (cs.drop off)) := nrfl rfl
theorem u2f {P : Program} {C : CallT} {f : FuncId} {u v args : List PV} : callV P C (.fn f u v) args = C f (u ++ args ++ v) := nrfl rfl
theorem nc_ptr {P : Program} {i o : Nat} : nc P (.ptr i o) = M.pure (.ptr i o) := nrfl rfl
theorem uto {P : Program} {cs : List PV} : nc P (.elem cs) = M.pure (.elem cs) := nrfl rfl
theorem nc_nil {P : Program} : nc P .nil = M.pan (nilDeref P) := nrfl rfl
theorem run_mi {t : TypeId} {v : PV} : run (mi t v) H = if isVal v = true then some (.ok (.iface t (stripC v)) H) else none := by
  unfold run mi
  cases isVal v <;> rfl
theorem run_pn {t : TypeId} {v : PV} : pn (.iface t v) = M.pan (.iface t v) := nrfl rfl
theorem uuj {o : Bool} : cv (.int k) o (.int j n) = M.pure (.int k (k.wrap n)) := nrfl rfl
theorem uvu {v : PV} {r : List PV} : ex 0 (.tup (v :: r)) = M.pure v := nrfl rfl
theorem usx {u v : PV} {r : List PV} : ex 1 (.tup (u :: v :: r)) = M.pure v := nrfl rfl
theorem uw5 {u v x : PV} {r : List PV} : ex 2 (.tup (u :: v :: x :: r)) = M.pure x := nrfl rfl
theorem uq1 {v : PV} {r : List PV} : tupDrop 0 (.tup (v :: r)) = .tup (stripC v :: r) := nrfl rfl
theorem uo9 {u v : PV} {r : List PV} : tupDrop 1 (.tup (u :: v :: r)) = .tup (u :: stripC v :: r) := nrfl rfl
theorem uqn {u v x : PV} {r : List PV} : tupDrop 2 (.tup (u :: v :: x :: r)) = .tup (u :: v :: stripC x :: r) := nrfl rfl
section
variable {c d : Bool} {s : ByteArray} {i o : Nat} {cs ds : List PV} {N : Nat}
theorem ulg : isTup (.int k n) = false := nrfl rfl
theorem uhe : isCell (.int k n) = true := nrfl rfl
theorem ulu : isVal (.int k n) = true := nrfl rfl
theorem uls : isPtr (.int k n) = false := nrfl rfl
theorem uke : PV.cells (.int k n) = [(.int k n)] := nrfl rfl
theorem u8o : PV.low N (.int k n) = true := by simp only [PV.low]
theorem uif : isTup (.bool c) = false := nrfl rfl
theorem ug0 : isCell (.bool c) = true := nrfl rfl
theorem uho : isVal (.bool c) = true := nrfl rfl
theorem ui3 : isPtr (.bool c) = false := nrfl rfl
theorem uhn : PV.cells (.bool c) = [(.bool c)] := nrfl rfl
theorem uc6 : PV.low N (.bool c) = true := by simp only [PV.low]
theorem um4 : isTup (.str s) = false := nrfl rfl
theorem uhg : isCell (.str s) = true := nrfl rfl
theorem ul1 : isVal (.str s) = true := nrfl rfl
theorem uk2 : isPtr (.str s) = false := nrfl rfl
theorem uk7 : PV.cells (.str s) = [(.str s)] := nrfl rfl
theorem uth : PV.low N (.str s) = true := by simp only [PV.low]
theorem ulc : isTup .nil = false := nrfl rfl
theorem uii : isCell .nil = true := nrfl rfl
theorem um1 : isVal .nil = true := nrfl rfl
theorem uly : isPtr .nil = false := nrfl rfl
theorem ult : PV.cells .nil = [.nil] := nrfl rfl
theorem uut : PV.low N .nil = true := by simp only [PV.low]
theorem ukm : isTup (.ptr i o) = false := nrfl rfl
theorem uhh : isCell (.ptr i o) = true := nrfl rfl
theorem ulj : isVal (.ptr i o) = true := nrfl rfl
theorem ule : isPtr (.ptr i o) = true := nrfl rfl
theorem ulh : PV.cells (.ptr i o) = [(.ptr i o)] := nrfl rfl
theorem usq : PV.low N (.ptr i o) = decide (i < N) := by simp only [PV.low]
theorem uhb : isTup (.elem cs) = false := nrfl rfl
theorem ug1 : isCell (.elem cs) = true := nrfl rfl
theorem uhj : isVal (.elem cs) = true := nrfl rfl
theorem ui6 : isPtr (.elem cs) = false := nrfl rfl
theorem uhu : PV.cells (.elem cs) = [(.elem cs)] := nrfl rfl
theorem uoc : PV.low N (.elem cs) = true := by simp only [PV.low]
theorem ugd : isTup (.slice c d i cs) = false := nrfl rfl
theorem udp : isCell (.slice c d i cs) = true := nrfl rfl
theorem uga : isVal (.slice c d i cs) = true := nrfl rfl
theorem ugh : isPtr (.slice c d i cs) = false := nrfl rfl
theorem ufd : PV.cells (.slice c d i cs) = [(.slice c d i cs)] := nrfl rfl
theorem u6n : PV.low N (.slice c d i cs) = true := by simp only [PV.low]
theorem upf : isTup (.fn i cs ds) = false := nrfl rfl
theorem ulz : isCell (.fn i cs ds) = true := nrfl rfl
theorem uok : isVal (.fn i cs ds) = true := nrfl rfl
theorem uob : isPtr (.fn i cs ds) = false := nrfl rfl
theorem uqd : PV.cells (.fn i cs ds) = [(.fn i cs ds)] := nrfl rfl
theorem low_fn : PV.low N (.fn i cs ds) = (lowL N cs && lowL N ds) := by simp only [PV.low]
theorem ugq : isTup .nilfn = false := nrfl rfl
theorem udl : isCell .nilfn = true := nrfl rfl
theorem ufg : isVal .nilfn = true := nrfl rfl
theorem uh0 : isPtr .nilfn = false := nrfl rfl
theorem uf0 : PV.cells .nilfn = [.nilfn] := nrfl rfl
theorem uky : PV.low N .nilfn = true := by simp only [PV.low]
theorem uh5 : isTup (.iface i x) = false := nrfl rfl
theorem udw : isCell (.iface i x) = true := nrfl rfl
theorem ugk : isVal (.iface i x) = true := nrfl rfl
theorem uev : isPtr (.iface i x) = false := nrfl rfl
theorem ugs : PV.cells (.iface i x) = [(.iface i x)] := nrfl rfl
theorem uc3 : PV.low N (.iface i x) = x.low N := by simp only [PV.low]
theorem uar : isTup .niliface = false := nrfl rfl
theorem u9j : isCell .niliface = true := nrfl rfl
theorem uao : isVal .niliface = true := nrfl rfl
theorem uat : isPtr .niliface = false := nrfl rfl
theorem uap : PV.cells .niliface = [.niliface] := nrfl rfl
theorem udk : PV.low N .niliface = true := by simp only [PV.low]
theorem ulp : isTup (.agg cs) = false := nrfl rfl
theorem ui4 : isCell (.agg cs) = false := nrfl rfl
theorem ume : isVal (.agg cs) = true := nrfl rfl
theorem ukb : isPtr (.agg cs) = false := nrfl rfl
theorem ulf : PV.cells (.agg cs) = cs := nrfl rfl
theorem ugz : PV.low N (.agg cs) = lowL N cs := by simp only [PV.low]
theorem ul6 : isTup (.tup cs) = true := nrfl rfl
theorem uhp : isCell (.tup cs) = false := nrfl rfl
theorem uki : isVal (.tup cs) = false := nrfl rfl
theorem ukh : isPtr (.tup cs) = false := nrfl rfl
theorem ul9 : PV.cells (.tup cs) = [(.tup cs)] := nrfl rfl
theorem uit : PV.low N (.tup cs) = lowL N cs := by simp only [PV.low]
theorem uf9 : isTup .undef = false := nrfl rfl
theorem udq : isCell .undef = false := nrfl rfl
theorem ues : isVal .undef = false := nrfl rfl
theorem ugp : isPtr .undef = false := nrfl rfl
theorem ufk : PV.cells .undef = [.undef] := nrfl rfl
theorem ukv : PV.low N .undef = true := by simp only [PV.low]
end
theorem u8n {n : Nat} : lowL n [] = true := by simp only [lowL]
theorem u7p {n : Nat} {v : PV} {r : List PV} : lowL n (v :: r) = (v.low n && lowL n r) := by simp only [lowL]
def bdR (H : Heap) : Option (List PV) → Option (Out PV)
  | some cs => some (.ok (.agg cs) H)
  | none => none
theorem uqa {cs : List PV} : bdR H (some cs) = some (.ok (.agg cs) H) := nrfl rfl
theorem run_bd {zero : List PV} {parts : List (Nat × Nat × PV)} : run (bd zero parts) H = bdR H (u6l parts zero) := by
  unfold run bd bdR
  cases u6l parts zero <;> rfl
theorem ufu {cs : List PV} : u6l [] cs = some cs := nrfl rfl
theorem udz {off size : Nat} {v : PV} {r : List (Nat × Nat × PV)} {cs : List PV} : u6l ((off, size, v) :: r) cs = if v.cells.length = size ∧ off + size ≤ cs.length ∧ v.cells.all isCell = true then u6l r (fillAt off (v.cells.map stripC) cs) else none := by
  show (bif v.cells.length == size && (decide (off + size ≤ cs.length) && v.cells.all isCell) then u6l r (fillAt off (v.cells.map stripC) cs) else none) = _
  cases hb : v.cells.all isCell <;> by_cases h1 : v.cells.length = size <;> by_cases h2 : off + size ≤ cs.length <;> simp [h1, h2, hb, uan (v.cells.length) size]
theorem uli {off : Nat} {vs cs : List PV} : fillAt off vs cs = cs.take off ++ vs ++ cs.drop (off + vs.length) := nrfl rfl
def bsR (own : Bool) (a : Option Nat) (vs : List PV) (H : Heap) : Option (Out PV) := if vs.all (u34 a) = true then some (.ok (.slice own false (a.getD 1) vs) H) else none
theorem run_bs {own : Bool} {a : Option Nat} {vs : List PV} : run (bs own a vs) H = bsR own a (vs.map stripC) H := by
  unfold run bs bsR
  cases ((vs.map stripC).all (u34 a)) <;> rfl
def noPanR : Option (Out PV) → Option (Out PV)
  | some (.ok v H) => some (.ok v H)
  | _ => none
theorem ufs {m : M PV} : run (noPan m) H = noPanR (run m H) := by
  unfold run noPan noPanR
  cases m H with
  | none => rfl
  | some q => cases q <;> rfl
theorem ukz {v : PV} {H : Heap} : noPanR (some (.ok v H)) = some (.ok v H) := nrfl rfl
theorem uhy {v : PV} {H : Heap} : noPanR (some (.pan v H)) = none := nrfl rfl
theorem uez : noPanR none = none := nrfl rfl
theorem uhf {c : Prop} [Decidable c] {r r' : Option (Out PV)} : noPanR (if c then r else r') = if c then noPanR r else noPanR r' := by split <;> rfl
noncomputable def chkR (r r' : Option (Out α)) (x : M β) (H : Heap) : Option (Out β) := run (chk (fun _ => r) (fun _ => r') x) H
@[congr] theorem v00r {r r' s s' : Option (Out α)} {x : M β} (h : r = s) (h' : r' = s') : chkR r r' x H = chkR s s' x H := by rw [h, h']
theorem utc {m m' : M α} {x : M β} : run (chk m m' x) H = chkR (run m H) (run m' H) x H := nrfl rfl
theorem uo1 {a : α} {K : Heap} {x : M β} : chkR (some (.ok a K)) (some (.ok a K)) x H = run x H := by
  simp [chkR, run, chk]
theorem uvg {i o : Nat} : tld (.ptr i o) = .ld i := nrfl rfl
theorem uv4 {i o : Nat} : tst (.ptr i o) = .st i := nrfl rfl
theorem uq6 {cs : List PV} : tld (.elem cs) = .no := nrfl rfl
theorem upd {x : Touch} : clash .no x = false := nrfl rfl
theorem ull {y : Touch} : clash y .no = false := by cases y <;> rfl
theorem ufy {i j : Nat} : clash (.ld i) (.ld j) = false := nrfl rfl
theorem ug5 {i j : Nat} : clash (.ld j) (.st i) = (i == j) := nrfl rfl
theorem ufh {i j : Nat} : clash (.st j) (.ld i) = (i == j) := nrfl rfl
theorem ufx {i j : Nat} : clash (.st j) (.st i) = (i == j) := nrfl rfl
theorem uds {i : Nat} : clash .any (.ld i) = false := nrfl rfl
theorem udu {i : Nat} : clash (.ld i) .any = false := nrfl rfl
theorem ubs : clash .any .any = false := nrfl rfl
def defR (CD : Option PV → CallT) (f : FuncId) (args : List PV) (res : M PV) : Option (Out PV) → Option (Out PV)
  | none => none
  | some (.ok _ H) => bindR (run (CD none f args) H) (fun _ => res)
  | some (.pan v H) => bindR (run (CD (some v) f args) H) (fun r => match r with | .tup [] => res | _ => M.fail)
theorem umi {CD : Option PV → CallT} {f : FuncId} {u v args : List PV} {rest res : M PV} : run (deferM CD (.fn f u v) args rest res) H = defR CD f (u ++ args ++ v) res (run rest H) := by
  unfold run deferM defR
  dsimp only
  cases rest H with
  | none => rfl
  | some q => cases q <;> rfl
@[congr] theorem v00q {CD : Option PV → CallT} {f : FuncId} {args : List PV} {res : M PV} {r r' : Option (Out PV)} (h : r = r') : defR CD f args res r = defR CD f args res r' := by rw [h]
theorem umb {CD : Option PV → CallT} {f : FuncId} {args : List PV} {res : M PV} : defR CD f args res none = none := nrfl rfl
theorem utb {CD : Option PV → CallT} {f : FuncId} {args : List PV} {res : M PV} {v : PV} : defR CD f args res (some (.ok v H)) = bindR (run (CD none f args) H) (fun _ => res) := nrfl rfl
theorem upg {CD : Option PV → CallT} {f : FuncId} {args : List PV} {res : M PV} {v : PV} : defR CD f args res (some (.pan v H)) = bindR (run (CD (some v) f args) H) (fun r => match r with | .tup [] => res | _ => M.fail) := nrfl rfl
theorem upi {CD : Option PV → CallT} {f : FuncId} {args : List PV} {res : M PV} {c : Prop} [Decidable c] {r r' : Option (Out PV)} : defR CD f args res (if c then r else r') = if c then defR CD f args res r else defR CD f args res r' := by split <;> rfl
end Go.Proofs.YthidcpkcfoldmaaGreat.Pi
namespace Go.Proofs.YthidcpkcfoldmaaGreat.Pi
def byt (c : UInt8) : PV := .int .u8 c.toNat
abbrev bytes (b : List UInt8) : List PV := b.map byt
abbrev BS (z : Bool) (b : List UInt8) : PV := .slice false z 1 (bytes b)
theorem ug9 {b : List UInt8} {k : Nat} (h : k < b.length) : (bytes b)[k]? = some (byt b[k]) := by simp [bytes, h]
theorem byt_lt (c : UInt8) : c.toNat < 256 := c.toNat_lt
theorem uj5 (n s x : Nat) (hn : n < 2 ^ s) : n ||| (x * 2 ^ s) = n + x * 2 ^ s := by
  rw [Nat.or_comm, Nat.mul_comm, ← Nat.two_pow_add_eq_or_of_lt hn, Nat.add_comm]
theorem bv_or {w a b : Nat} (ha : a < 2 ^ w) (hb : b < 2 ^ w) : (BitVec.ofInt w (a : Int) ||| BitVec.ofInt w (b : Int)).toNat = a ||| b := by
  rw [BitVec.toNat_or, BitVec.ofInt_natCast, BitVec.ofInt_natCast, BitVec.toNat_ofNat, BitVec.toNat_ofNat, Nat.mod_eq_of_lt ha, Nat.mod_eq_of_lt hb]
theorem bv_and {w a b : Nat} (ha : a < 2 ^ w) (hb : b < 2 ^ w) : (BitVec.ofInt w (a : Int) &&& BitVec.ofInt w (b : Int)).toNat = a &&& b := by
  rw [BitVec.toNat_and, BitVec.ofInt_natCast, BitVec.ofInt_natCast, BitVec.toNat_ofNat, BitVec.toNat_ofNat, Nat.mod_eq_of_lt ha, Nat.mod_eq_of_lt hb]
theorem and127 (a : Nat) (ha : a < 256) : IntKind.u8.wrap ((BitVec.ofInt IntKind.u8.bits (a : Int) &&& BitVec.ofInt IntKind.u8.bits 127).toNat : Int) = ((a % 128 : Nat) : Int) := by
  have e : (127 : Int) = ((127 : Nat) : Int) := rfl
  have h := bv_and (w := 8) (a := a) (b := 127) ha (by decide)
  rw [show IntKind.u8.bits = 8 from rfl, e, h, Nat.and_two_pow_sub_one_eq_mod a 7]
  exact w_u8 (by omega)
theorem uqx {s : Nat} (h : s ≤ 64) : shiftN .u64 (s : Int) = s := by unfold shiftN; rw [Int.toNat_natCast]; exact Nat.min_eq_left h
theorem uhm {s : Nat} (h : s ≤ 64) : shiftN .i64 (s : Int) = s := by unfold shiftN; rw [Int.toNat_natCast]; exact Nat.min_eq_left h
theorem uvl {s : Nat} (h : s ≤ 8) : shiftN .u8 (s : Int) = s := by unfold shiftN; rw [Int.toNat_natCast]; exact Nat.min_eq_left h
theorem shr_u8 (c : Nat) {s : Nat} (h : s ≤ 8) : (c : Int).fdiv (2 ^ shiftN .u8 (s : Int)) = ((c / 2 ^ s : Nat) : Int) := by
  rw [uvl h, Int.fdiv_eq_ediv_of_nonneg _ (Int.le_of_lt (Int.pow_pos (by omega)))]
  simp
theorem uql {n x s : Nat} (hs : s ≤ 63) (hn : n < 2 ^ s) (hx : x * 2 ^ s < 2 ^ 64) :
    IntKind.u64.wrap ((BitVec.ofInt IntKind.u64.bits (n : Int) ||| BitVec.ofInt IntKind.u64.bits (IntKind.u64.wrap ((x : Int) * 2 ^ shiftN .u64 (s : Int)))).toNat : Int) = ((n + x * 2 ^ s : Nat) : Int) ∧ n + x * 2 ^ s < 2 ^ 64 := by
  have e1 : ((x : Int) * 2 ^ shiftN .u64 (s : Int)) = ((x * 2 ^ s : Nat) : Int) := by rw [uqx (by omega)]; simp
  have hle : 2 ^ s ≤ 2 ^ 63 := Nat.pow_le_pow_right (by omega) hs
  have hlt : n + x * 2 ^ s < 2 ^ 64 := by
    have e : (2 : Nat) ^ 64 = 2 ^ (64 - s) * 2 ^ s := by rw [← Nat.pow_add, Nat.sub_add_cancel (by omega)]
    rw [e] at hx ⊢
    have hx2 : x < 2 ^ (64 - s) := Nat.lt_of_mul_lt_mul_right hx
    have : (x + 1) * 2 ^ s ≤ 2 ^ (64 - s) * 2 ^ s := Nat.mul_le_mul_right _ hx2
    rw [Nat.add_mul] at this
    omega
  refine ⟨?_, hlt⟩
  rw [e1, w_u64 (n := ((x * 2 ^ s : Nat) : Int)) (by omega), show IntKind.u64.bits = 64 from rfl, bv_or (w := 64) (by omega) hx, uj5 n s x hn]
  exact w_u64 (by omega)
inductive Rs (α : Type) where
  | ok (v : α) (p : Nat)
  | err (p e : Nat)
def lebU (b : List UInt8) (B e : Nat) : Nat → Nat → Nat → Nat → Rs Nat
  | 0, _, _, p => .err p 4
  | f + 1, i, n, p =>
    if p < e then
      let c := (b.getD p 0).toNat
      if B < 7 * i + 7 ∧ c / 2 ^ (B - 7 * i) ≠ 0 then .err p 4
      else if c < 128 then .ok (n + c * 2 ^ (7 * i)) (p + 1)
      else lebU b B e f (i + 1) (n + c % 128 * 2 ^ (7 * i)) (p + 1)
    else .err e 3
end Go.Proofs.YthidcpkcfoldmaaGreat.Pi
namespace Go.Proofs.YthidcpkcfoldmaaGreat.Pi
theorem wi (x : Int) : IntKind.i64.wrap x = (x + 9223372036854775808) % 18446744073709551616 - 9223372036854775808 := by rw [IntKind.wrap_i64]
theorem uv8 (x : Int) : IntKind.i64.wrap x % 18446744073709551616 = x % 18446744073709551616 := by rw [wi]; omega
theorem uoe {x y : Int} (h : x % 18446744073709551616 = y % 18446744073709551616) : IntKind.i64.wrap x = IntKind.i64.wrap y := by rw [wi, wi]; omega
theorem uhw (a : Int) : BitVec.ofInt 64 (a % 18446744073709551616) = BitVec.ofInt 64 a := by
  apply BitVec.eq_of_toNat_eq
  rw [BitVec.toNat_ofInt, BitVec.toNat_ofInt]
  have e : ((2 ^ 64 : Nat) : Int) = 18446744073709551616 := rfl
  rw [e, Int.emod_emod_of_dvd _ (Int.dvd_refl _)]
def or64 (a b : Int) : Int := ((BitVec.ofInt 64 a ||| BitVec.ofInt 64 b).toNat : Int)
theorem uvt (a b : Int) : or64 (a % 18446744073709551616) (b % 18446744073709551616) = or64 a b := by unfold or64; rw [uhw, uhw]
theorem pow64 {s : Nat} (h : s ≤ 64) : (18446744073709551616 : Int) = 2 ^ (64 - s) * 2 ^ s := by
  rw [← Int.pow_add, Nat.sub_add_cancel h]; rfl
theorem uet (x : Int) {s : Nat} (h : s ≤ 64) : (x * 2 ^ s) % 18446744073709551616 = (x % 2 ^ (64 - s)) * 2 ^ s := by
  rw [pow64 h, Int.mul_comm x, Int.mul_comm (2 ^ (64 - s)), Int.mul_emod_mul_of_pos _ _ (Int.pow_pos (by omega)), Int.mul_comm]
theorem upt {N x : Int} {s : Nat} (hs : s ≤ 63) (h0 : 0 ≤ N) (h1 : N < 2 ^ s) : IntKind.i64.wrap (or64 (IntKind.i64.wrap N) (IntKind.i64.wrap (x * 2 ^ s))) = IntKind.i64.wrap (N + x * 2 ^ s) := by
  have hq : (0 : Int) < 2 ^ s := Int.pow_pos (by omega)
  have hr : (0 : Int) < 2 ^ (64 - s) := Int.pow_pos (by omega)
  have hp := pow64 (show s ≤ 64 by omega)
  have hle : (2 : Int) ^ s ≤ 18446744073709551616 := by
    have h4 : 1 * (2 : Int) ^ s ≤ 2 ^ (64 - s) * 2 ^ s := Int.mul_le_mul_of_nonneg_right (by omega) (by omega)
    omega
  have hm0 := Int.emod_nonneg x (show (2 : Int) ^ (64 - s) ≠ 0 by omega)
  have hm1 := Int.emod_lt_of_pos x hr
  have hN : N % 18446744073709551616 = N := by omega
  obtain ⟨a, rfl⟩ := Int.eq_ofNat_of_zero_le h0
  obtain ⟨m, hm⟩ := Int.eq_ofNat_of_zero_le hm0
  have ha : a < 2 ^ s := by
    have h2 : ((a : Nat) : Int) < ((2 ^ s : Nat) : Int) := by simpa using h1
    exact Int.ofNat_lt.1 h2
  have e2 : ((m : Int) * 2 ^ s) = ((m * 2 ^ s : Nat) : Int) := by simp
  have hb : m * 2 ^ s < 2 ^ 64 := by
    have h2 : (x % 2 ^ (64 - s) + 1) * 2 ^ s ≤ 2 ^ (64 - s) * 2 ^ s := Int.mul_le_mul_of_nonneg_right (by omega) (by omega)
    rw [← hp, Int.add_mul, hm, e2] at h2
    omega
  have hj := uql (n := a) (x := m) hs ha hb
  rw [← uvt, uv8, uv8, hN, uet x (by omega), hm, e2]
  unfold or64
  have hsz : ((2 : Nat) ^ s) ≤ 2 ^ 64 := Nat.pow_le_pow_right (by omega) (by omega)
  rw [bv_or (w := 64) (by omega) hb, uj5 a s m ha]
  apply uoe
  rw [Int.add_emod, uet x (by omega), hm, e2]
  have := hj.2
  omega
def okS (h c : Nat) : Prop := c < 128 ∧ (c / 2 ^ (h - 1) = 0 ∨ c / 2 ^ (h - 1) = 2 ^ (8 - h) - 1)
instance (h c : Nat) : Decidable (okS h c) := by unfold okS; infer_instance
theorem v006 (n : Int) : IntKind.i8.wrap n = (n + 128) % 256 - 128 := by
  have h : IntKind.i8.wrap n = if 128 ≤ n % 256 then n % 256 - 256 else n % 256 := by
    simp [IntKind.wrap, IntKind.bits, IntKind.signed]
  rw [h]; split <;> omega
theorem utz (n : Int) : IntKind.u8.wrap n = n % 256 := by
  simp [IntKind.wrap, IntKind.bits, IntKind.signed]
theorem top_ok {h : Nat} (hh : h = 1 ∨ h = 4 ∨ h = 5) {c : Nat} (c1 : c < 128) :
    ((IntKind.i8.wrap (IntKind.u8.wrap ((c : Int) * 2 ^ shiftN .u8 1))).fdiv (2 ^ shiftN .i8 (h : Int)) = 0 ∨ (IntKind.i8.wrap (IntKind.u8.wrap ((c : Int) * 2 ^ shiftN .u8 1))).fdiv (2 ^ shiftN .i8 (h : Int)) = -1) ↔ okS h c := by
  have e1 : ((c : Int) * 2 ^ shiftN .u8 1) = (c : Int) * 2 := rfl
  have e2 : shiftN .i8 (h : Int) = h := by unfold shiftN; rw [Int.toNat_natCast]; exact Nat.min_eq_left (by show h ≤ 8; omega)
  rw [v006, utz, e1, e2, Int.fdiv_eq_ediv_of_nonneg _ (Int.le_of_lt (Int.pow_pos (by omega)))]
  unfold okS
  rcases hh with rfl | rfl | rfl
  · show ((((c * 2 : Int) % 256 + 128) % 256 - 128) / 2 ^ 1 = 0 ∨ (((c * 2 : Int) % 256 + 128) % 256 - 128) / 2 ^ 1 = -1) ↔ (c < 128 ∧ (c / 2 ^ 0 = 0 ∨ c / 2 ^ 0 = 2 ^ 7 - 1))
    omega
  · show ((((c * 2 : Int) % 256 + 128) % 256 - 128) / 2 ^ 4 = 0 ∨ (((c * 2 : Int) % 256 + 128) % 256 - 128) / 2 ^ 4 = -1) ↔ (c < 128 ∧ (c / 2 ^ 3 = 0 ∨ c / 2 ^ 3 = 2 ^ 4 - 1))
    omega
  · show ((((c * 2 : Int) % 256 + 128) % 256 - 128) / 2 ^ 5 = 0 ∨ (((c * 2 : Int) % 256 + 128) % 256 - 128) / 2 ^ 5 = -1) ↔ (c < 128 ∧ (c / 2 ^ 4 = 0 ∨ c / 2 ^ 4 = 2 ^ 3 - 1))
    omega
theorem and64 (a : Nat) (ha : a < 128) : IntKind.u8.wrap ((BitVec.ofInt IntKind.u8.bits (a : Int) &&& BitVec.ofInt IntKind.u8.bits 64).toNat : Int) = if a < 64 then 0 else 64 := by
  have e : (64 : Int) = ((64 : Nat) : Int) := rfl
  have h := bv_and (w := 8) (a := a) (b := 64) (by omega) (by decide)
  have h2 : ∀ y, y < 128 → y &&& 64 = if y < 64 then 0 else 64 := by decide +kernel
  rw [show IntKind.u8.bits = 8 from rfl, e, h, h2 a ha]
  split <;> rfl
def lastS (c s : Nat) : Int := (if c < 64 then (c : Int) else (c : Int) - 128) * 2 ^ s
def lebS (b : List UInt8) (B e : Nat) : Nat → Nat → Nat → Nat → Rs Int
  | 0, _, _, p => .err p 4
  | f + 1, i, n, p =>
    if p < e then
      let c := (b.getD p 0).toNat
      if B < 7 * i + 7 ∧ ¬ okS (B - 7 * i) c then .err p 4
      else if c < 128 then .ok (IntKind.i64.wrap (n + lastS c (7 * i))) (p + 1)
      else lebS b B e f (i + 1) (n + c % 128 * 2 ^ (7 * i)) (p + 1)
    else .err e 3
def rdS (b : List UInt8) (B e p : Nat) : Rs Int := lebS b B e 10 0 0 p
end Go.Proofs.YthidcpkcfoldmaaGreat.Pi
namespace Go.Proofs.YthidcpkcfoldmaaGreat.Pi
open Go.ChangeShapes Go.WideShapes
def imOf (w : World) (b o : Nat) : Option Value := w.cell? ⟨b, o, none⟩
theorem imOf_ok (w : World) : ∀ b o v, imOf w b o = some v → w.cell? ⟨b, o, none⟩ = some v := fun _ _ _ h => h
end Go.Proofs.YthidcpkcfoldmaaGreat.Pi
namespace Go.Proofs.YthidcpkcfoldmaaGreat.Pi
theorem goDown : type_of% (And.intro (And.intro (And.intro (And.intro (And.intro @run_bind @uq2) (And.intro @uhq @umf)) (And.intro (And.intro @ulk
    @run_nb) (And.intro @nbR_ok @utj))) (And.intro (And.intro (And.intro @ufp @uhr) (And.intro @ugw @ulw)) (And.intro
    (And.intro @ucm @ul0) (And.intro @up7 (And.intro @upa @uuk))))) (And.intro (And.intro (And.intro (And.intro @uta
    @usr) (And.intro @run_pure @ut7)) (And.intro (And.intro @upx @ufs) (And.intro @ukz @uhy))) (And.intro (And.intro
    (And.intro @uez @uhf) (And.intro @utc @uo1)) (And.intro (And.intro @umi @umb) (And.intro @utb (And.intro
    @upg @upi)))))) := (And.intro (And.intro (And.intro (And.intro (And.intro @run_bind @uq2) (And.intro @uhq @umf)) (And.intro (And.intro @ulk
    @run_nb) (And.intro @nbR_ok @utj))) (And.intro (And.intro (And.intro @ufp @uhr) (And.intro @ugw @ulw)) (And.intro
    (And.intro @ucm @ul0) (And.intro @up7 (And.intro @upa @uuk))))) (And.intro (And.intro (And.intro (And.intro @uta
    @usr) (And.intro @run_pure @ut7)) (And.intro (And.intro @upx @ufs) (And.intro @ukz @uhy))) (And.intro (And.intro
    (And.intro @uez @uhf) (And.intro @utc @uo1)) (And.intro (And.intro @umi @umb) (And.intro @utb (And.intro
    @upg @upi))))))
theorem goUp : type_of% (And.intro (And.intro (And.intro (And.intro (And.intro (And.intro (And.intro @ui9 (And.intro @uqo @run_al)) (And.intro (And.intro @run_bx
    @run_ld) (And.intro @run_st @uol))) (And.intro (And.intro (And.intro @ued @upu) (And.intro @ul7 @umd)) (And.intro
    (And.intro @ldB_t @ldB_f) (And.intro @stB_is @uq9)))) (And.intro (And.intro (And.intro @uoa (And.intro @ubi @u7y)) (And.intro
    (And.intro @ud1 @ub3) (And.intro @uiv @ufv))) (And.intro (And.intro (And.intro @ujg @set_set) (And.intro @uj1 @cut0))
    (And.intro (And.intro @cut1 @cut2) (And.intro @cutA0 @cutA1))))) (And.intro (And.intro (And.intro (And.intro @cutA2 (And.intro @u39 @u9l))
    (And.intro (And.intro @w_i64 @w_u64) (And.intro @w_u8 @w_u32))) (And.intro (And.intro (And.intro @w_i32 @usv) (And.intro @uu2 @uod))
    (And.intro (And.intro @ub0 @run_fa) (And.intro @uvz @u2f)))) (And.intro (And.intro (And.intro @nc_ptr (And.intro @uto @nc_nil))
    (And.intro (And.intro @run_mi @run_pn) (And.intro @uuj @uvu))) (And.intro (And.intro (And.intro @usx @uw5) (And.intro @uq1
    @uo9)) (And.intro (And.intro @uqn @ulg) (And.intro @uhe @ulu)))))) (And.intro (And.intro (And.intro (And.intro
    (And.intro @uls (And.intro @uke @u8o)) (And.intro (And.intro @uif @ug0) (And.intro @uho @ui3)))
    (And.intro (And.intro (And.intro @uhn @uc6) (And.intro @um4 @uhg)) (And.intro (And.intro @ul1 @uk2) (And.intro
    @uk7 @uth)))) (And.intro (And.intro (And.intro @ulc (And.intro @uii @um1)) (And.intro (And.intro @uly
    @ult) (And.intro @uut @ukm))) (And.intro (And.intro (And.intro @uhh @ulj) (And.intro @ule @ulh))
    (And.intro (And.intro @usq @uhb) (And.intro @ug1 @uhj))))) (And.intro (And.intro (And.intro (And.intro @ui6
    (And.intro @uhu @uoc)) (And.intro (And.intro @ugd @udp) (And.intro @uga @ugh))) (And.intro (And.intro
    (And.intro @ufd @u6n) (And.intro @upf @ulz)) (And.intro (And.intro @uok @uob) (And.intro @uqd @low_fn))))
    (And.intro (And.intro (And.intro @ugq (And.intro @udl @ufg)) (And.intro (And.intro @uh0 @uf0) (And.intro
    @uky @uh5))) (And.intro (And.intro (And.intro @udw @ugk) (And.intro @uev @ugs)) (And.intro
    (And.intro @uc3 @uar) (And.intro @u9j @uao))))))) (And.intro (And.intro (And.intro (And.intro (And.intro
    (And.intro @uat (And.intro @uap @udk)) (And.intro (And.intro @ulp @ui4) (And.intro @ume
    @ukb))) (And.intro (And.intro (And.intro @ulf @ugz) (And.intro @ul6 @uhp)) (And.intro (And.intro @uki
    @ukh) (And.intro @ul9 @uit)))) (And.intro (And.intro (And.intro @uf9 (And.intro @udq @ues)) (And.intro
    (And.intro @ugp @ufk) (And.intro @ukv @u8n))) (And.intro (And.intro (And.intro @u7p @uqa) (And.intro @run_bd
    @ufu)) (And.intro (And.intro @udz @uli) (And.intro @run_bs @uvg))))) (And.intro (And.intro (And.intro (And.intro
    @uv4 (And.intro @uq6 @upd)) (And.intro (And.intro @ull @ufy) (And.intro @ug5 @ufh))) (And.intro
    (And.intro (And.intro @ufx @uds) (And.intro @udu @ubs)) (And.intro (And.intro @um8 @uhx)
    (And.intro @uk9 @ufn)))) (And.intro (And.intro (And.intro @ulm (And.intro @uko @uid)) (And.intro (And.intro
    @ump @uaq) (And.intro @ugu @upc))) (And.intro (And.intro (And.intro @ugx @uk8) (And.intro @uij
    @ugo)) (And.intro (And.intro @ui8 @ue1) (And.intro @uig @uia)))))) (And.intro (And.intro (And.intro
    (And.intro (And.intro @uie (And.intro @u9g @udm)) (And.intro (And.intro @umr @bi_add) (And.intro @bi_sub
    @bi_mul))) (And.intro (And.intro (And.intro @bi_eql @bi_neq) (And.intro @bi_lss @bi_leq)) (And.intro (And.intro @bi_gtr @bi_geq) (And.intro
    @unc @utx)))) (And.intro (And.intro (And.intro @ujh (And.intro @uw1 @un_not)) (And.intro (And.intro @ukk @uw7) (And.intro
    @mx_int @mn_int))) (And.intro (And.intro (And.intro @cv_int @Bool.and_true) (And.intro @Bool.true_and @Bool.and_self)) (And.intro (And.intro
    @Bool.not_true @Bool.not_false) (And.intro @Bool.and_false @Bool.false_and))))) (And.intro (And.intro (And.intro (And.intro @Bool.or_true
    (And.intro @Bool.or_false @Bool.true_or)) (And.intro (And.intro @Bool.false_or @Bool.false_eq_true) (And.intro @decide_eq_true_eq @and_self)))
    (And.intro (And.intro (And.intro @and_true @true_and) (And.intro @not_true_eq_false @not_false_eq_true)) (And.intro (And.intro @Nat.zero_add
    @Nat.add_zero) (And.intro @Nat.le_refl @Nat.lt_add_one)))) (And.intro (And.intro (And.intro (And.intro @Nat.lt_irrefl @and_false) (And.intro
    @false_and @Bool.not_eq_true')) (And.intro (And.intro @Bool.not_eq_eq_eq_not @decide_eq_false_iff_not) (And.intro @Bool.and_eq_true
    @Bool.or_eq_true))) (And.intro (And.intro (And.intro @decide_true @decide_false) (And.intro @uee @ug2)) (And.intro (And.intro @uep
    @ug4) (And.intro @ubp @uei)))))))) := (And.intro (And.intro (And.intro (And.intro (And.intro (And.intro (And.intro @ui9 (And.intro @uqo @run_al)) (And.intro (And.intro @run_bx
    @run_ld) (And.intro @run_st @uol))) (And.intro (And.intro (And.intro @ued @upu) (And.intro @ul7 @umd)) (And.intro
    (And.intro @ldB_t @ldB_f) (And.intro @stB_is @uq9)))) (And.intro (And.intro (And.intro @uoa (And.intro @ubi @u7y)) (And.intro
    (And.intro @ud1 @ub3) (And.intro @uiv @ufv))) (And.intro (And.intro (And.intro @ujg @set_set) (And.intro @uj1 @cut0))
    (And.intro (And.intro @cut1 @cut2) (And.intro @cutA0 @cutA1))))) (And.intro (And.intro (And.intro (And.intro @cutA2 (And.intro @u39 @u9l))
    (And.intro (And.intro @w_i64 @w_u64) (And.intro @w_u8 @w_u32))) (And.intro (And.intro (And.intro @w_i32 @usv) (And.intro @uu2 @uod))
    (And.intro (And.intro @ub0 @run_fa) (And.intro @uvz @u2f)))) (And.intro (And.intro (And.intro @nc_ptr (And.intro @uto @nc_nil))
    (And.intro (And.intro @run_mi @run_pn) (And.intro @uuj @uvu))) (And.intro (And.intro (And.intro @usx @uw5) (And.intro @uq1
    @uo9)) (And.intro (And.intro @uqn @ulg) (And.intro @uhe @ulu)))))) (And.intro (And.intro (And.intro (And.intro
    (And.intro @uls (And.intro @uke @u8o)) (And.intro (And.intro @uif @ug0) (And.intro @uho @ui3)))
    (And.intro (And.intro (And.intro @uhn @uc6) (And.intro @um4 @uhg)) (And.intro (And.intro @ul1 @uk2) (And.intro
    @uk7 @uth)))) (And.intro (And.intro (And.intro @ulc (And.intro @uii @um1)) (And.intro (And.intro @uly
    @ult) (And.intro @uut @ukm))) (And.intro (And.intro (And.intro @uhh @ulj) (And.intro @ule @ulh))
    (And.intro (And.intro @usq @uhb) (And.intro @ug1 @uhj))))) (And.intro (And.intro (And.intro (And.intro @ui6
    (And.intro @uhu @uoc)) (And.intro (And.intro @ugd @udp) (And.intro @uga @ugh))) (And.intro (And.intro
    (And.intro @ufd @u6n) (And.intro @upf @ulz)) (And.intro (And.intro @uok @uob) (And.intro @uqd @low_fn))))
    (And.intro (And.intro (And.intro @ugq (And.intro @udl @ufg)) (And.intro (And.intro @uh0 @uf0) (And.intro
    @uky @uh5))) (And.intro (And.intro (And.intro @udw @ugk) (And.intro @uev @ugs)) (And.intro
    (And.intro @uc3 @uar) (And.intro @u9j @uao))))))) (And.intro (And.intro (And.intro (And.intro (And.intro
    (And.intro @uat (And.intro @uap @udk)) (And.intro (And.intro @ulp @ui4) (And.intro @ume
    @ukb))) (And.intro (And.intro (And.intro @ulf @ugz) (And.intro @ul6 @uhp)) (And.intro (And.intro @uki
    @ukh) (And.intro @ul9 @uit)))) (And.intro (And.intro (And.intro @uf9 (And.intro @udq @ues)) (And.intro
    (And.intro @ugp @ufk) (And.intro @ukv @u8n))) (And.intro (And.intro (And.intro @u7p @uqa) (And.intro @run_bd
    @ufu)) (And.intro (And.intro @udz @uli) (And.intro @run_bs @uvg))))) (And.intro (And.intro (And.intro (And.intro
    @uv4 (And.intro @uq6 @upd)) (And.intro (And.intro @ull @ufy) (And.intro @ug5 @ufh))) (And.intro
    (And.intro (And.intro @ufx @uds) (And.intro @udu @ubs)) (And.intro (And.intro @um8 @uhx)
    (And.intro @uk9 @ufn)))) (And.intro (And.intro (And.intro @ulm (And.intro @uko @uid)) (And.intro (And.intro
    @ump @uaq) (And.intro @ugu @upc))) (And.intro (And.intro (And.intro @ugx @uk8) (And.intro @uij
    @ugo)) (And.intro (And.intro @ui8 @ue1) (And.intro @uig @uia)))))) (And.intro (And.intro (And.intro
    (And.intro (And.intro @uie (And.intro @u9g @udm)) (And.intro (And.intro @umr @bi_add) (And.intro @bi_sub
    @bi_mul))) (And.intro (And.intro (And.intro @bi_eql @bi_neq) (And.intro @bi_lss @bi_leq)) (And.intro (And.intro @bi_gtr @bi_geq) (And.intro
    @unc @utx)))) (And.intro (And.intro (And.intro @ujh (And.intro @uw1 @un_not)) (And.intro (And.intro @ukk @uw7) (And.intro
    @mx_int @mn_int))) (And.intro (And.intro (And.intro @cv_int @Bool.and_true) (And.intro @Bool.true_and @Bool.and_self)) (And.intro (And.intro
    @Bool.not_true @Bool.not_false) (And.intro @Bool.and_false @Bool.false_and))))) (And.intro (And.intro (And.intro (And.intro @Bool.or_true
    (And.intro @Bool.or_false @Bool.true_or)) (And.intro (And.intro @Bool.false_or @Bool.false_eq_true) (And.intro @decide_eq_true_eq @and_self)))
    (And.intro (And.intro (And.intro @and_true @true_and) (And.intro @not_true_eq_false @not_false_eq_true)) (And.intro (And.intro @Nat.zero_add
    @Nat.add_zero) (And.intro @Nat.le_refl @Nat.lt_add_one)))) (And.intro (And.intro (And.intro (And.intro @Nat.lt_irrefl @and_false) (And.intro
    @false_and @Bool.not_eq_true')) (And.intro (And.intro @Bool.not_eq_eq_eq_not @decide_eq_false_iff_not) (And.intro @Bool.and_eq_true
    @Bool.or_eq_true))) (And.intro (And.intro (And.intro @decide_true @decide_false) (And.intro @uee @ug2)) (And.intro (And.intro @uep
    @ug4) (And.intro @ubp @uei))))))))
theorem cr : (∀ {α : Type} {a : α} {l : List α}, (a :: l).length = l.length + 1) ∧ (∀ {α : Type}, ([] : List α).length = 0) ∧ (∀ {α β : Type} {f : α → β} {a : α} {l : List α}, (a :: l).map f = f a :: l.map f) ∧ (∀ {α β : Type} {f : α → β}, [].map f = []) ∧ (∀ {α : Type} {a : α} {l : List α} {i : Nat}, (a :: l).take (i + 1) = a :: l.take i) ∧ (∀ {α : Type} {l : List α}, l.take 0 = []) ∧ (∀ {α : Type} {a : α} {l : List α} {i : Nat}, (a :: l).drop (i + 1) = l.drop i) ∧ (∀ {α : Type} {l : List α}, l.drop 0 = l) ∧ (∀ {α : Type} {i : Nat}, ([] : List α).drop i = []) ∧ (∀ {α : Type} {i : Nat}, ([] : List α).take i = []) ∧ (∀ {α : Type} {a : α} {l k : List α}, a :: l ++ k = a :: (l ++ k)) ∧ (∀ {α : Type} {l : List α}, [] ++ l = l) ∧ (∀ {α : Type} {l : List α}, l ++ [] = l) ∧ (∀ {α : Type} {a b : α} {l : List α}, (a :: l).set 0 b = b :: l) ∧ (∀ {α : Type} {a b : α} {l : List α} {i : Nat}, (a :: l).set (i + 1) b = a :: l.set i b) ∧ (∀ {α : Type} {f : α → Bool} {a : α} {l : List α}, (a :: l).all f = (f a && l.all f)) ∧ (∀ {α : Type} {f : α → Bool}, [].all f = true) ∧ (∀ {a b : Int}, a ≥ b ↔ b ≤ a) ∧ (∀ {a b : Nat}, a ≥ b ↔ b ≤ a) ∧ (∀ {a b : Int}, a > b ↔ b < a) ∧ (∀ {a b : Nat}, a > b ↔ b < a) ∧ (∀ {α : Type} [BEq α] [ReflBEq α] {a : α}, (a == a) = true) ∧ (∀ {α : Type} [BEq α] [LawfulBEq α] {a b : α}, (a == b) = true ↔ a = b) ∧ (∀ {α : Type} [BEq α] [LawfulBEq α] {a b : α}, (a != b) = true ↔ a ≠ b) ∧ (∀ {α : Type} {a b : α}, (a ≠ b) = ¬ a = b) ∧ (∀ {α : Type} {p : Prop} [Decidable p] {x y : α}, (if ¬ p then x else y) = if p then y else x) ∧ (∀ {α : Type} {p : Prop} [Decidable p] {x : α}, (if p then x else x) = x) ∧ (∀ {α : Type} {a b : α}, (some a).getD b = a) ∧ (∀ {α : Type} {b : α}, (none : Option α).getD b = b) :=
  ⟨List.length_cons, List.length_nil, List.map_cons, List.map_nil, List.take_succ_cons, List.take_zero, List.drop_succ_cons, List.drop_zero, List.drop_nil, List.take_nil, List.cons_append, (List.nil_append _), (List.append_nil _), List.set_cons_zero, List.set_cons_succ, List.all_cons, List.all_nil, Iff.rfl, Iff.rfl, Iff.rfl, Iff.rfl, (beq_self_eq_true _), beq_iff_eq, bne_iff_ne, (ne_eq _ _), (ite_not _ _ _), (ite_self _), Option.getD_some, Option.getD_none⟩
end Go.Proofs.YthidcpkcfoldmaaGreat.Pi
namespace Go.Proofs.YthidcpkcfoldmaaGreat.Pi
variable {α β σ : Type} {c : Nat} {H : Heap}
def St (H : Heap) (c : Nat) (bx : Box) (L : List Box) : Heap := hadd (hset H c bx) L
def killR (c : Nat) : Option (Out α) → Option (Out α)
  | some (.pan v H) => some (.pan v (hset H c .dead))
  | r => r
def runK (c : Nat) (m : M α) (H : Heap) : Option (Out α) := killR c (run m H)
def bindK (c : Nat) (r : Option (Out α)) (f : α → M β) : Option (Out β) :=
  match r with
  | none => none
  | some (.ok v H) => runK c (f v) H
  | some (.pan v H) => some (.pan v H)
inductive Res (σ α : Type) where
  | ok (v : α) (s : σ)
  | err (t : TypeId) (l : List Int)
  | no
def fltP (t : TypeId) (l : List Int) : PV := .iface t (.agg (l.map (PV.int .i64)))
theorem un8 {t : TypeId} {l : List Int} : fltP t l = .iface t (.agg (l.map (PV.int .i64))) := nrfl rfl
theorem ukd {n : Nat} : ∀ l : List Int, lowL n (l.map (PV.int .i64)) = true
  | [] => u8n
  | a :: r => by rw [List.map_cons, u7p, u8o, ukd r]; rfl
theorem uiy {t : TypeId} {l : List Int} {n : Nat} : (fltP t l).low n = true := by
  unfold fltP
  rw [uc3, ugz]
  exact ukd l
def Res.bind {σ τ α β : Type} (r : Res σ α) (g : α → σ → Res τ β) : Res τ β :=
  match r with
  | .ok v s => g v s
  | .err t l => .err t l
  | .no => .no
def elimK {σ α γ : Type} (c : Nat) (H : Heap) (L : List Box) (r : Res σ α) (g : α → σ → Option (Out γ)) : Option (Out γ) :=
  match r with
  | .ok v s => g v s
  | .err t l => some (.pan (fltP t l) (St H c .dead L))
  | .no => none
def outK (c : Nat) (H : Heap) (L : List Box) (bx : σ → Box) (enc : α → PV) (r : Res σ α) : Option (Out PV) := elimK c H L r fun v s => some (.ok (enc v) (St H c (bx s) L))
def outS (c : Nat) (H : Heap) (L : List Box) (bx : σ → Box) (enc : α → PV) (r : α × σ) : Option (Out PV) := some (.ok (enc r.1) (St H c (bx r.2) L))
@[congr] theorem v00i {r r' : Option (Out α)} {f : α → M β} (h : r = r') : bindK c r f = bindK c r' f := by rw [h]
@[congr] theorem uzp {σ α γ : Type} {L L' : List Box} {r r' : Res σ α} {g g' : α → σ → Option (Out γ)} (h : r = r') (hL : L = L') (hg : ∀ v s, r' = .ok v s → g v s = g' v s) : elimK c H L r g = elimK c H L' r' g' := by
  subst h hL
  cases r with
  | ok v s => exact hg v s rfl
  | err t l => rfl
  | no => rfl
theorem uu9 {L : List Box} {bx : σ → Box} {enc : α → PV} {r : Res σ α} : outK c H L bx enc r = elimK c H L r fun v s => some (.ok (enc v) (St H c (bx s) L)) := nrfl rfl
theorem ujj {L : List Box} {bx : σ → Box} {enc : α → PV} {v : α} {s : σ} : outK c H L bx enc (.ok v s) = some (.ok (enc v) (St H c (bx s) L)) := nrfl rfl
theorem uea {L : List Box} {bx : σ → Box} {enc : α → PV} {t : TypeId} {l : List Int} : outK c H L bx enc (Res.err t l : Res σ α) = some (.pan (fltP t l) (St H c .dead L)) := nrfl rfl
theorem uuy {L : List Box} {bx : σ → Box} {enc : α → PV} : outK c H L bx enc (Res.no : Res σ α) = none := nrfl rfl
theorem uq5 {γ : Type} {L : List Box} {g : α → σ → Option (Out γ)} : elimK c H L (Res.no : Res σ α) g = none := nrfl rfl
theorem umo {τ : Type} {β : Type} {L : List Box} {bx : σ → Box} {enc : α → PV} {r : Res τ β} {g : β → τ → Res σ α} : outK c H L bx enc (r.bind g) = elimK c H L r fun v s => outK c H L bx enc (g v s) := by cases r <;> rfl
theorem upo {L : List Box} {bx : σ → Box} {enc : α → PV} {p : Prop} [Decidable p] {r r' : Res σ α} : outK c H L bx enc (if p then r else r') = if p then outK c H L bx enc r else outK c H L bx enc r' := by split <;> rfl
theorem uph {γ : Type} {L : List Box} {v : α} {s : σ} {g : α → σ → Option (Out γ)} : elimK c H L (.ok v s) g = g v s := nrfl rfl
theorem ul4 {γ : Type} {L : List Box} {t : TypeId} {l : List Int} {g : α → σ → Option (Out γ)} : elimK c H L (Res.err t l : Res σ α) g = some (.pan (fltP t l) (St H c .dead L)) := nrfl rfl
theorem ums {γ : Type} {L : List Box} {p : Prop} [Decidable p] {r r' : Res σ α} {g : α → σ → Option (Out γ)} : elimK c H L (if p then r else r') g = if p then elimK c H L r g else elimK c H L r' g := by split <;> rfl
theorem uhi {γ τ β : Type} {L : List Box} {r : Res τ β} {f : β → τ → Res σ α} {g : α → σ → Option (Out γ)} : elimK c H L (r.bind f) g = elimK c H L r fun v s => elimK c H L (f v s) g := by cases r <;> rfl
theorem uoq {v : α} : killR c (some (.ok v H)) = some (.ok v H) := nrfl rfl
theorem uhv : killR c (none : Option (Out α)) = none := nrfl rfl
theorem uf2 {v : PV} : killR c (some (.pan v H) : Option (Out α)) = some (.pan v (hset H c .dead)) := nrfl rfl
theorem ulx {p : Prop} [Decidable p] {r r' : Option (Out α)} : killR c (if p then r else r') = if p then killR c r else killR c r' := by split <;> rfl
theorem uku {m : M α} {f : α → M β} : runK c (M.bind m f) H = bindK c (runK c m H) f := by
  unfold runK
  rw [run_bind]
  cases run m H with
  | none => rfl
  | some q => cases q <;> rfl
theorem upm {f : α → M β} {v : α} : bindK c (some (.ok v H)) f = runK c (f v) H := nrfl rfl
theorem uhz {f : α → M β} : bindK c none f = none := nrfl rfl
theorem um3 {f : α → M β} {v : PV} : bindK c (some (.pan v H)) f = some (.pan v H) := nrfl rfl
theorem ukl {p : Prop} [Decidable p] {r r' : Option (Out α)} {f : α → M β} : bindK c (if p then r else r') f = if p then bindK c r f else bindK c r' f := by split <;> rfl
theorem uhd {L : List Box} {r : Res σ α} {g : α → σ → Option (Out PV)} {f : PV → M β} : bindK c (elimK c H L r g) f = elimK c H L r fun v s => bindK c (g v s) f := by cases r <;> rfl
noncomputable def nbK (c : Nat) (H : Heap) (r : Option (Out α)) (f : α → M β) : Option (Out β) := killR c (nbR H r f)
@[congr] theorem v00t {r r' : Option (Out α)} {f : α → M β} (h : r = r') : nbK c H r f = nbK c H r' f := by rw [h]
theorem uu4 {m : M α} {f : α → M β} : runK c (nb m f) H = nbK c H (runK c m H) f := by
  unfold nbK runK nbR run nb killR
  dsimp only
  cases m H with
  | none => rfl
  | some q => cases q <;> rfl
theorem nbK_ok {f : α → M β} {v : α} : nbK c H (some (.ok v H)) f = runK c (f v) H := by
  unfold nbK
  rw [nbR_ok]
  rfl
theorem uqe {f : α → M β} : nbK c H none f = none := by
  unfold nbK nbR nb
  rfl
theorem ush {p : Prop} [Decidable p] {r r' : Option (Out α)} {f : α → M β} : nbK c H (if p then r else r') f = if p then nbK c H r f else nbK c H r' f := by split <;> rfl
theorem us8 {m : M PV} (hc : c < List.length H) : runK c (trunc m) H = truncR H (runK c m H) := by
  unfold runK
  rw [ufp]
  cases run m H with
  | none => rfl
  | some q => cases q with
    | ok v K => rfl
    | pan v K =>
      show killR c (bif v.low H.length then some (Out.pan v (hcut K H.length)) else none) = (bif v.low H.length then some (Out.pan v (hcut (hset K c .dead) H.length)) else none)
      cases v.low H.length with
      | false => rfl
      | true =>
        simp only [cond_true, uf2, Option.some.injEq, Out.pan.injEq, true_and]
        unfold hset hcut
        rw [List.take_set]
theorem uib {p : Bool} {m : M α} : runK c (guardM p m) H = if p = true then runK c m H else none := by cases p <;> rfl
theorem uma {v : PV} {m : M PV} : runK c (resT v m) H = if isTup v = true then none else runK c m H := by unfold resT; cases isTup v <;> rfl
theorem uld {p : Bool} {x y : M α} : runK c (condM (.bool p) x y) H = if p = true then runK c x H else runK c y H := by cases p <;> rfl
theorem uos {p : Bool} {m : M PV} : runK c (gd (.bool p) true m) H = if p = true then runK c m H else some (.ok (.tup []) H) := by cases p <;> rfl
theorem uoo {p : Bool} {m : M PV} : runK c (gd (.bool p) false m) H = if p = true then some (.ok (.tup []) H) else runK c m H := by cases p <;> rfl
theorem up8 {b : Bool} {m : M PV} : runK c (gd (.tup []) b m) H = some (.ok (.tup []) H) := nrfl rfl
theorem ulb {v : α} : runK c (M.pure v) H = some (.ok v H) := nrfl rfl
theorem uqi {v : PV} : runK c (M.pan v : M α) H = some (.pan v (hset H c .dead)) := nrfl rfl
theorem ul5 : runK c (M.fail : M α) H = none := nrfl rfl
theorem uhl {m : M PV} : runK c (noPan m) H = noPanR (run m H) := by
  unfold runK
  rw [ufs]
  cases run m H with
  | none => rfl
  | some q => cases q <;> rfl
noncomputable def chkK (c : Nat) (r r' : Option (Out α)) (x : M β) (H : Heap) : Option (Out β) := killR c (chkR r r' x H)
@[congr] theorem v00o {r r' s s' : Option (Out α)} {x : M β} (h : r = s) (h' : r' = s') : chkK c r r' x H = chkK c s s' x H := by rw [h, h']
theorem upp {m m' : M α} {x : M β} : runK c (chk m m' x) H = chkK c (run m H) (run m' H) x H := nrfl rfl
theorem uuo {a : α} {K : Heap} {x : M β} : chkK c (some (.ok a K)) (some (.ok a K)) x H = runK c x H := by
  unfold chkK
  rw [uo1]
  rfl
theorem umn {r : Option (Out α)} {x : M β} : chkK c none r x H = none := by
  unfold chkK chkR run chk
  rfl
theorem up0 {p : Prop} [Decidable p] {r r' s : Option (Out α)} {x : M β} : chkK c (if p then r else r') s x H = if p then chkK c r s x H else chkK c r' s x H := by split <;> rfl
theorem um5 {r : Option (Out α)} {x : M β} : chkR none r x H = none := by
  unfold chkR run chk
  rfl
theorem uq7 {p : Prop} [Decidable p] {r r' s : Option (Out α)} {x : M β} : chkR (if p then r else r') s x H = if p then chkR r s x H else chkR r' s x H := by split <;> rfl
section
variable {n : Nat} {id o : Nat} {x y v i : PV} {cs : List PV} {m : Option Nat} {mv b : Bool} {L : List Box}
theorem utn : runK c (al cs) H = killR c (run (al cs) H) := nrfl rfl
theorem uu3 : runK c (bx n v) H = killR c (run (bx n v) H) := nrfl rfl
theorem uvj : runK c (ld m mv v) H = killR c (run (ld m mv v) H) := nrfl rfl
theorem uwc : runK c (st n mv x v) H = killR c (run (st n mv x v) H) := nrfl rfl
theorem upb : runK c (iaS n x i) H = killR c (run (iaS n x i) H) := nrfl rfl
theorem uon {len : Nat} : runK c (ixA len n m x i) H = killR c (run (ixA len n m x i) H) := nrfl rfl
theorem umq : runK c (pick v x y) H = killR c (run (pick v x y) H) := nrfl rfl
theorem uu6 {t : TypeId} : runK c (mi t v) H = killR c (run (mi t v) H) := nrfl rfl
theorem uuz {t : FuncId} {l l' : List PV} : runK c (mf t l l') H = killR c (run (mf t l l') H) := nrfl rfl
theorem ut0 {z : List PV} {ps : List (Nat × Nat × PV)} : runK c (bd z ps) H = killR c (run (bd z ps) H) := nrfl rfl
theorem uw2 {l : List PV} : runK c (bs b m l) H = killR c (run (bs b m l) H) := nrfl rfl
theorem usj {k : Nat} : runK c (ap b n k x y) H = killR c (run (ap b n k x y) H) := nrfl rfl
theorem uvq {k : Nat} : runK c (mk b n k x y) H = killR c (run (mk b n k x y) H) := nrfl rfl
theorem uqc : runK c (lnS x) H = killR c (run (lnS x) H) := nrfl rfl
theorem upk : runK c (lnL x) H = killR c (run (lnL x) H) := nrfl rfl
theorem uop : runK c (ixS x i) H = killR c (run (ixS x i) H) := nrfl rfl
theorem upz {lo hi : Option PV} : runK c (slS x lo hi) H = killR c (run (slS x lo hi) H) := nrfl rfl
theorem uqj {lo hi : Option PV} : runK c (slL n x lo hi) H = killR c (run (slL n x lo hi) H) := nrfl rfl
theorem uug {k : Cv} : runK c (cv k b x) H = killR c (run (cv k b x) H) := nrfl rfl
theorem ut9 : runK c (ex n x) H = killR c (run (ex n x) H) := nrfl rfl
theorem uw4 {op : BinOp} {ek : EqK} : runK c (bi op ek x y) H = killR c (run (bi op ek x y) H) := nrfl rfl
theorem toK {m : M PV} : runK c m H = killR c (run m H) := nrfl rfl
theorem u1j {x : Box} (hc : c < List.length H) : St H c x L = St (hadd H L) c x [] := by
  unfold St hadd hset
  rw [List.append_nil, List.set_append_left _ _ hc]
theorem St_out {x : Box} {K : Heap} {L' : List Box} (hK : K = hadd H L) (hc : c < List.length H) : St K c x L' = St H c x (L ++ L') := by
  subst hK
  unfold St hadd hset
  rw [List.set_append_left _ _ hc, List.append_assoc]
theorem len_St {x : Box} : List.length (St H c x L) = List.length H + List.length L := by unfold St; rw [u39, u9l]
theorem get_St {x : Box} (hc : c < List.length H) : hget (St H c x L) c = some x := by unfold St; rw [ubp hc, ujg hc]
theorem uu5 {x : Box} (k : Nat) : hget (St H c x L) (List.length H + k) = nth L k := uee k
theorem u7v {x : Box} : hget (St H c x L) (List.length H) = nth L 0 := ug2
theorem set_St {x y : Box} (hc : c < List.length H) : hset (St H c x L) c y = St H c y L := by unfold St; rw [uei hc, set_set]
theorem uwe {x y : Box} (k : Nat) : hset (St H c x L) (List.length H + k) y = St H c x (L.set k y) := uep k
theorem uoh {x y : Box} : hset (St H c x L) (List.length H) y = St H c x (L.set 0 y) := ug4
theorem add_St {x : Box} {K : List Box} : hadd (St H c x L) K = St H c x (L ++ K) := uj1
theorem cut_St {x : Box} : hcut (St H c x L) (List.length H) = St H c x [] := by
  unfold St
  rw [cutA1]
  exact (List.append_nil _).symm
theorem ufj {r : Res σ α} {bx : Box} {g : α → σ → Option (Out PV)} : truncR (St H c bx []) (elimK c H L r g) = elimK c H [] r fun v s => truncR (St H c bx []) (g v s) := by
  cases r with
  | ok v s => rfl
  | err t l =>
    show truncR (St H c bx []) (some (Out.pan (fltP t l) (St H c .dead L))) = some (Out.pan (fltP t l) (St H c .dead []))
    rw [ucm, if_pos uiy, len_St, List.length_nil, Nat.add_zero, cut_St]
  | no => rfl
theorem ugm {m : M PV} {x : Box} (hc : c < List.length H) : runK c (trunc m) (St H c x L) = truncR (St H c x L) (runK c m (St H c x L)) := us8 (by rw [len_St]; omega)
theorem liftK {m : M PV} {x : Box} {bx : σ → Box} {enc : α → PV} {r : Res σ α} (h : ∀ H, c < List.length H → runK c m (St H c x []) = outK c H [] bx enc r) (hc : c < List.length H) : runK c m (St H c x L) = outK c H L bx enc r := by
  rw [u1j hc, h _ (by rw [u39]; omega)]
  cases r with
  | ok v s => rw [ujj, ujj, u1j (L := L) hc]
  | err t l => rw [uea, uea, u1j (L := L) hc]
  | no => rfl
theorem liftS {m : M PV} {x : Box} {bx : σ → Box} {enc : α → PV} {r : α × σ} (h : ∀ H, c < List.length H → run m (St H c x []) = outS c H [] bx enc r) (hc : c < List.length H) : run m (St H c x L) = outS c H L bx enc r := by
  rw [u1j hc, h _ (by rw [u39]; omega)]
  unfold outS
  rw [u1j (L := L) hc]
theorem ut3 {bx : σ → Box} {enc : α → PV} {v : α} {s : σ} : outS c H L bx enc (v, s) = some (.ok (enc v) (St H c (bx s) L)) := nrfl rfl
theorem utw {bx : σ → Box} {enc : α → PV} {r : α × σ} {f : PV → M β} : bindR (outS c H L bx enc r) f = run (f (enc r.1)) (St H c (bx r.2) L) := nrfl rfl
end
end Go.Proofs.YthidcpkcfoldmaaGreat.Pi
namespace Go.Proofs.YthidcpkcfoldmaaGreat.Pi
theorem kDown : type_of% (And.intro (And.intro (And.intro (And.intro (And.intro @ujj @uea) (And.intro @uuy (And.intro @uq5 @umo))) (And.intro
    (And.intro @upo @uph) (And.intro @ul4 (And.intro @ums @uhi)))) (And.intro (And.intro (And.intro @uoq @uhv)
    (And.intro @uf2 (And.intro @ulx @uku))) (And.intro (And.intro @upm (And.intro @uhz @um3)) (And.intro @ukl
    (And.intro @uhd @ufj))))) (And.intro (And.intro (And.intro (And.intro @uu4 @nbK_ok) (And.intro @uqe (And.intro @ush
    @ugm))) (And.intro (And.intro @uib (And.intro @uma @uld)) (And.intro @uos (And.intro @uoo @up8))))
    (And.intro (And.intro (And.intro @ulb @uqi) (And.intro @ul5 (And.intro @uhl @upp))) (And.intro (And.intro @uuo
    (And.intro @umn @up0)) (And.intro @um5 (And.intro @uq7 @utw)))))) := (And.intro (And.intro (And.intro (And.intro (And.intro @ujj @uea) (And.intro @uuy (And.intro @uq5 @umo))) (And.intro
    (And.intro @upo @uph) (And.intro @ul4 (And.intro @ums @uhi)))) (And.intro (And.intro (And.intro @uoq @uhv)
    (And.intro @uf2 (And.intro @ulx @uku))) (And.intro (And.intro @upm (And.intro @uhz @um3)) (And.intro @ukl
    (And.intro @uhd @ufj))))) (And.intro (And.intro (And.intro (And.intro @uu4 @nbK_ok) (And.intro @uqe (And.intro @ush
    @ugm))) (And.intro (And.intro @uib (And.intro @uma @uld)) (And.intro @uos (And.intro @uoo @up8))))
    (And.intro (And.intro (And.intro @ulb @uqi) (And.intro @ul5 (And.intro @uhl @upp))) (And.intro (And.intro @uuo
    (And.intro @umn @up0)) (And.intro @um5 (And.intro @uq7 @utw))))))
theorem kUp : type_of% (And.intro (And.intro (And.intro (And.intro (And.intro @uu9 @ut3) (And.intro @un8 @uiy)) (And.intro (And.intro @utn @uu3)
    (And.intro @uvj @uwc))) (And.intro (And.intro (And.intro @upb @uon) (And.intro @umq @uu6)) (And.intro (And.intro
    @uuz @ut0) (And.intro @uw2 (And.intro @usj @uvq))))) (And.intro (And.intro (And.intro (And.intro @uqc @upk)
    (And.intro @uop @upz)) (And.intro (And.intro @uqj @uug) (And.intro @ut9 @uw4))) (And.intro (And.intro (And.intro @len_St
    @get_St) (And.intro @uu5 @u7v)) (And.intro (And.intro @set_St @uwe) (And.intro @uoh (And.intro @add_St @cut_St)))))) := (And.intro (And.intro (And.intro (And.intro (And.intro @uu9 @ut3) (And.intro @un8 @uiy)) (And.intro (And.intro @utn @uu3)
    (And.intro @uvj @uwc))) (And.intro (And.intro (And.intro @upb @uon) (And.intro @umq @uu6)) (And.intro (And.intro
    @uuz @ut0) (And.intro @uw2 (And.intro @usj @uvq))))) (And.intro (And.intro (And.intro (And.intro @uqc @upk)
    (And.intro @uop @upz)) (And.intro (And.intro @uqj @uug) (And.intro @ut9 @uw4))) (And.intro (And.intro (And.intro @len_St
    @get_St) (And.intro @uu5 @u7v)) (And.intro (And.intro @set_St @uwe) (And.intro @uoh (And.intro @add_St @cut_St))))))
end Go.Proofs.YthidcpkcfoldmaaGreat.Pi
namespace Go.Proofs.YthidcpkcfoldmaaGreat.Pi.Q
open Go Go.Proofs.YthidcpkcfoldmaaGreat.Pi
noncomputable abbrev P : Program := Tryz.prog
noncomputable abbrev X : ExtT := fun _ => none
noncomputable abbrev C := callW P X
noncomputable abbrev CD := callDW P X
abbrev u4d : FuncId := 4
abbrev u6y : FuncId := 6
abbrev u40 : FuncId := 10
abbrev u5n : FuncId := 11
abbrev u0l : FuncId := 12
abbrev u7k : FuncId := 13
abbrev u1u : FuncId := 14
abbrev udf : FuncId := 23
abbrev u3m : FuncId := 24
abbrev u0n : FuncId := 25
abbrev u0h : FuncId := 26
abbrev u2j : FuncId := 27
abbrev u22 : FuncId := 28
abbrev u5b : FuncId := 29
abbrev u33 : FuncId := 30
abbrev u6m : FuncId := 31
abbrev u3k : FuncId := 32
abbrev u3v : FuncId := 33
abbrev u5q : FuncId := 34
abbrev u3s : FuncId := 35
abbrev u3f : FuncId := 36
abbrev u7u : FuncId := 37
abbrev u4p : FuncId := 38
abbrev u4e : FuncId := 39
abbrev u11 : FuncId := 40
abbrev u21 : FuncId := 41
abbrev u1z : FuncId := 42
abbrev u2w : FuncId := 43
abbrev u4f : FuncId := 44
abbrev u23 : FuncId := 45
abbrev u1r : FuncId := 46
abbrev u2q : FuncId := 47
abbrev u3x : FuncId := 48
abbrev u3t : FuncId := 49
abbrev u3u : FuncId := 50
abbrev u3n : FuncId := 51
abbrev u35 : FuncId := 52
abbrev u38 : FuncId := 53
abbrev u2k : FuncId := 54
abbrev u44 : FuncId := 55
abbrev u1f : FuncId := 56
abbrev u0g : FuncId := 57
abbrev u1n : FuncId := 58
abbrev u63 : FuncId := 73
abbrev u7n : FuncId := 74
abbrev u8a : FuncId := 75
abbrev u7f : FuncId := 76
abbrev u5l : FuncId := 77
abbrev u3e : FuncId := 78
abbrev u1m : FuncId := 79
abbrev u6d : FuncId := 80
abbrev u28 : FuncId := 81
abbrev u24 : FuncId := 82
abbrev u5f : FuncId := 83
abbrev u3p : FuncId := 84
abbrev u36 : FuncId := 85
abbrev u70 : FuncId := 86
abbrev u72 : FuncId := 87
abbrev u4v : FuncId := 88
abbrev u4i : FuncId := 89
abbrev u0k : FuncId := 90
abbrev u14 : FuncId := 91
abbrev u2i : FuncId := 92
abbrev u29 : FuncId := 93
abbrev u12 : FuncId := 94
abbrev u5c : FuncId := 95
abbrev u52 : FuncId := 96
abbrev u3r : FuncId := 97
abbrev u5s : FuncId := 98
abbrev u53 : FuncId := 99
abbrev u3q : FuncId := 100
abbrev u5v : FuncId := 101
abbrev u2c : FuncId := 102
abbrev u1h : FuncId := 103
abbrev u5t : FuncId := 104
abbrev u5y : FuncId := 105
abbrev u2o : FuncId := 106
abbrev u8p : FuncId := 115
abbrev u7g : FuncId := 116
abbrev u4r : FuncId := 117
abbrev u42 : FuncId := 118
abbrev u3w : FuncId := 119
abbrev u8j : FuncId := 120
abbrev u3a : FuncId := 121
abbrev u2y : FuncId := 122
abbrev u60 : FuncId := 123
abbrev u2n : FuncId := 124
abbrev u1y : FuncId := 125
abbrev u0q : FuncId := 126
abbrev u1d : FuncId := 127
abbrev ubx : FuncId := 128
abbrev u1a : FuncId := 129
abbrev u47 : FuncId := 130
abbrev ucc : FuncId := 131
abbrev u19 : FuncId := 132
abbrev u1s : FuncId := 133
abbrev ucg : FuncId := 134
abbrev u0s : FuncId := 135
abbrev u1e : FuncId := 136
abbrev uc1 : FuncId := 137
abbrev uc0 : FuncId := 138
abbrev u73 : FuncId := 139
abbrev u4s : FuncId := 140
abbrev u4u : FuncId := 148
abbrev u4a : FuncId := 149
abbrev u10 : FuncId := 150
abbrev u3l : FuncId := 151
abbrev uce : FuncId := 152
abbrev u3h : FuncId := 153
abbrev u18 : FuncId := 154
abbrev u50 : FuncId := 155
abbrev u5h : FuncId := 156
abbrev u16 : FuncId := 157
abbrev u0o : FuncId := 158
abbrev u1x : FuncId := 159
abbrev u66 : FuncId := 160
abbrev u2b : FuncId := 161
abbrev ufw : FuncId := 167
abbrev u48 : FuncId := 168
abbrev u7b : FuncId := 169
abbrev u6p : FuncId := 170
abbrev uc9 : FuncId := 171
abbrev u0b : TypeId := 154
end Go.Proofs.YthidcpkcfoldmaaGreat.Pi.Q
namespace Go.Proofs.YthidcpkcfoldmaaGreat.Pi.Q
open Go Go.Proofs.YthidcpkcfoldmaaGreat.Pi
theorem u89 (a0 a1 a2 : PV) : C u4d [a0, a1, a2] =
 trunc (M.bind (bx 17 a0) fun t3_0 =>
 M.bind (ld (some 17) false t3_0) fun t15_1 =>
 M.bind (C u5n [(strip t15_1)]) fun t16_2 =>
 M.bind (ex 0 (strip t16_2)) fun t17_3 =>
 M.bind (ex 1 (tupDrop 0 (strip t16_2))) fun t18_4 =>
 M.bind (bi .neq .none (strip t18_4) (.int .i64 0)) fun t20_5 =>
 condM t20_5
 (M.bind (lnL (strip t17_3)) fun t22_6 =>
 M.bind (bi .eql .none t22_6 (.int .i64 0)) fun t23_7 =>
 M.bind (gd (strip t23_7) true (C u40 [])) fun t25_8 =>
 M.bind (pick (strip t23_7) t25_8 (.bool false)) fun t26_9 =>
 resT t26_9 (M.pure t26_9))
 (M.bind (bs true none []) fun t27_10 =>
 M.bind (ap true 1 1 t27_10 (strip a1)) fun t29_11 =>
 M.bind (ap true 1 1 t29_11 (strip t17_3)) fun t31_12 =>
 M.bind (ap true 1 1 t31_12 (strip a2)) fun t33_13 =>
 M.bind (lnL (strip a1)) fun t37_14 =>
 M.bind (C u6y [(strip (strip t33_13)), (strip t37_14)]) fun t38_15 =>
 M.bind (ex 0 (strip t38_15)) fun t39_16 =>
 M.bind (ex 1 (tupDrop 0 (strip t38_15))) fun t40_17 =>
 M.bind (ex 2 (tupDrop 1 (tupDrop 0 (strip t38_15)))) fun t41_18 =>
 M.bind (al [(.int .i64 0), (.int .u32 0), (.int .u32 0), (.int .u64 0), (.int .u32 0), (.int .u32 0), (.int .u64 0), (.int .i64 0), (.int .i64 0), (.bool false), (.int .i64 0), (.slice false true 0 []), (.slice false true 0 []), (.bool false), (.slice false true 0 []), (.slice false true 0 []), (.slice false true 0 [])]) fun t10_19 =>
 M.bind (st 17 true t10_19 t39_16) fun _ =>
 M.bind (ld (some 17) true t3_0) fun t42_21 =>
 M.bind (al [(.int .i64 0), (.int .u32 0), (.int .u32 0), (.int .u64 0), (.int .u32 0), (.int .u32 0), (.int .u64 0), (.int .i64 0), (.int .i64 0), (.bool false), (.int .i64 0), (.slice false true 0 []), (.slice false true 0 []), (.bool false), (.slice false true 0 []), (.slice false true 0 []), (.slice false true 0 [])]) fun t13_22 =>
 M.bind (st 17 true t13_22 t42_21) fun _ =>
 M.bind (fa 11 t13_22) fun t43_24 =>
 M.bind (st 1 false t43_24 (.slice false true 0 [])) fun _ =>
 M.bind (fa 12 t13_22) fun t44_26 =>
 M.bind (st 1 false t44_26 (.slice false true 0 [])) fun _ =>
 M.bind (fa 13 t13_22) fun t45_28 =>
 M.bind (st 1 false t45_28 (.bool false)) fun _ =>
 M.bind (bi .eql .none (strip t41_18) (.int .i64 0)) fun t47_30 =>
 M.bind (gd (strip t47_30) true (M.pure (strip t40_17))) fun t49_31 =>
 M.bind (gd (strip t47_30) true (M.pure (strip a1))) fun t50_32 =>
 M.bind (gd (strip t47_30) true (lnL t50_32)) fun t51_33 =>
 M.bind (gd (strip t47_30) true (M.pure (strip t17_3))) fun t52_34 =>
 M.bind (gd (strip t47_30) true (lnL t52_34)) fun t53_35 =>
 M.bind (gd (strip t47_30) true (bi .add .none t51_33 t53_35)) fun t54_36 =>
 M.bind (gd (strip t47_30) true (bi .eql .none t49_31 t54_36)) fun t55_37 =>
 M.bind (pick (strip t47_30) t55_37 (.bool false)) fun t56_38 =>
 M.bind (gd (strip t56_38) true (ld (some 17) false t13_22)) fun t58_39 =>
 M.bind (gd (strip t56_38) true (ld (some 17) false t10_19)) fun t59_40 =>
 M.bind (gd (strip t56_38) true (C u0l [(strip t58_39), (strip t59_40)])) fun t60_41 =>
 M.bind (pick (strip t56_38) t60_41 (.bool false)) fun t61_42 =>
 M.bind (gd (strip t61_42) true (C u40 [])) fun t63_43 =>
 M.bind (pick (strip t61_42) t63_43 (.bool false)) fun t64_44 =>
 resT t64_44 (M.pure t64_44))) := by
 rw [C, u03 _ _ rfl]; kernel_rfl
theorem uca (a0 a1 : PV) : C u6y [a0, a1] =
 trunc (M.bind (al [(.int .i64 0), (.int .u32 0), (.int .u32 0), (.int .u64 0), (.int .u32 0), (.int .u32 0), (.int .u64 0), (.int .i64 0), (.int .i64 0), (.bool false), (.int .i64 0), (.slice false true 0 []), (.slice false true 0 []), (.bool false), (.slice false true 0 []), (.slice false true 0 []), (.slice false true 0 [])]) fun t4_0 =>
 M.bind (bi .lss .none (strip a1) (.int .i64 0)) fun t9_1 =>
 M.bind (gd (strip t9_1) false (M.pure (strip a1))) fun t11_2 =>
 M.bind (gd (strip t9_1) false (M.pure (strip a0))) fun t12_3 =>
 M.bind (gd (strip t9_1) false (lnL t12_3)) fun t13_4 =>
 M.bind (gd (strip t9_1) false (bi .gtr .none t11_2 t13_4)) fun t14_5 =>
 M.bind (pick (strip t9_1) (.bool true) t14_5) fun t15_6 =>
 condM t15_6
 (M.bind (bd [(.int .i64 0), (.int .u32 0), (.int .u32 0), (.int .u64 0), (.int .u32 0), (.int .u32 0), (.int .u64 0), (.int .i64 0), (.int .i64 0), (.bool false), (.int .i64 0), (.slice false true 0 []), (.slice false true 0 []), (.bool false), (.slice false true 0 []), (.slice false true 0 []), (.slice false true 0 [])] []) fun t16_7 =>
 M.bind (st 17 true t4_0 t16_7) fun _ =>
 M.bind (ld (some 17) true t4_0) fun t0_9 => guardM (!isTup t0_9) (M.pure (.tup [t0_9, (.int .i64 0), (.int .i64 1)])))
 (M.bind (bd [(.slice false true 0 []), (.int .i64 0), (.int .i64 0), (.int .u32 0), (.int .u32 0), (.int .u64 0), (.int .u32 0), (.int .u32 0), (.int .u64 0), (.int .i64 0), (.int .i64 0), (.bool false), (.int .i64 0), (.slice false true 0 []), (.slice false true 0 []), (.bool false), (.slice false true 0 []), (.slice false true 0 []), (.slice false true 0 []), (.int .i64 0), (.int .i64 0)] [(0, 1, (strip a0)), (1, 1, (strip a1))]) fun t19_10 =>
 M.bind (bx 21 t19_10) fun t20_11 =>
 M.bind (C u7k []) fun t21_12 =>
 M.bind (C u1u [(strip (strip t20_11))]) fun t23_13 =>
 M.bind (ixA 17 1 none t21_12 t23_13) fun t24_14 =>
 M.bind (callV P C t24_14 [(strip (strip t20_11))]) fun t26_15 =>
 M.bind (nc P (strip t20_11)) fun t28_16 =>
 M.bind (fa 20 t28_16) fun t29_17 =>
 M.bind (ld none false t29_17) fun t30_18 =>
 M.bind (bi .neq .none t30_18 (.int .i64 0)) fun t31_19 =>
 condM t31_19
 (nb (bd [(.int .i64 0), (.int .u32 0), (.int .u32 0), (.int .u64 0), (.int .u32 0), (.int .u32 0), (.int .u64 0), (.int .i64 0), (.int .i64 0), (.bool false), (.int .i64 0), (.slice false true 0 []), (.slice false true 0 []), (.bool false), (.slice false true 0 []), (.slice false true 0 []), (.slice false true 0 [])] []) fun t32_20 =>
 nb (M.pure (strip t20_11)) fun t33_21 =>
 nb (nc P t33_21) fun t34_22 =>
 nb (fa 19 t34_22) fun t35_23 =>
 guardM (!clash (tld t35_23) (.no) && true) <| nb (ld none true t35_23) fun t36_24 =>
 nb (M.pure (strip t20_11)) fun t37_25 =>
 nb (nc P t37_25) fun t38_26 =>
 nb (fa 20 t38_26) fun t39_27 =>
 guardM (!clash (tld t39_27) (tld t35_23) && (!clash (tld t39_27) (.no) && (!clash (tld t39_27) (.no) && (!clash (tld t39_27) (.no) && (!clash (tld t39_27) (.no) && true))))) <| nb (ld none true t39_27) fun t40_28 =>
 guardM (!clash (tst t4_0) (tld t39_27) && (!clash (tst t4_0) (.no) && (!clash (tst t4_0) (.no) && (!clash (tst t4_0) (.no) && (!clash (tst t4_0) (tld t35_23) && (!clash (tst t4_0) (.no) && (!clash (tst t4_0) (.no) && (!clash (tst t4_0) (.no) && true)))))))) <| M.bind (noPan (st 17 true t4_0 t32_20)) fun _ =>
 nb (M.pure t36_24) fun t5_30 =>
 nb (M.pure t40_28) fun t6_31 =>
 M.bind (ld (some 17) true t4_0) fun t0_32 => guardM (!isTup t0_32) (resT t5_30 (resT t6_31 (M.pure (.tup [t0_32, t5_30, t6_31])))))
 (chk
 (M.bind (noPan (M.pure (strip t20_11))) fun t41_44 =>
 M.bind (noPan (nc P t41_44)) fun t42_45 =>
 M.bind (noPan (fa 2 t42_45)) fun t43_46 =>
 M.bind (noPan (M.pure (strip t20_11))) fun t45_47 =>
 M.bind (noPan (nc P t45_47)) fun t46_48 =>
 M.bind (noPan (fa 1 t46_48)) fun t47_49 =>
 M.bind (noPan (ld (some 17) true t43_46)) fun t44_50 =>
 M.bind (noPan (st 17 true t4_0 t44_50)) fun _ =>
 M.bind (noPan (ld none true t47_49)) fun t48_52 =>
 M.bind (noPan (M.pure t48_52)) fun t5_53 =>
 M.bind (noPan (M.pure (.int .i64 0))) fun t6_54 =>
 M.pure [a0, a1, .undef, .undef, t4_0, t5_53, t6_54, t20_11, (strip a1), t9_1, (strip t9_1), t11_2, t12_3, t13_4, t14_5, t15_6, .undef, (strip a0), (strip a1), t19_10, (strip t20_11), t21_12, (strip t20_11), t23_13, t24_14, (strip t20_11), t26_15, (strip t20_11), t28_16, t29_17, t30_18, t31_19, .undef, .undef, .undef, .undef, .undef, .undef, .undef, .undef, .undef, t41_44, t42_45, t43_46, (strip t44_50), t45_47, t46_48, t47_49, (strip t48_52)])
 (M.bind (noPan (M.pure (strip t20_11))) fun t41_33 =>
 M.bind (noPan (nc P t41_33)) fun t42_34 =>
 M.bind (noPan (fa 2 t42_34)) fun t43_35 =>
 M.bind (noPan (M.pure (strip t20_11))) fun t45_36 =>
 M.bind (noPan (nc P t45_36)) fun t46_37 =>
 M.bind (noPan (fa 1 t46_37)) fun t47_38 =>
 M.bind (noPan (ld (some 17) true t43_35)) fun t44_39 =>
 M.bind (noPan (ld none true t47_38)) fun t48_40 =>
 M.bind (noPan (st 17 true t4_0 t44_39)) fun _ =>
 M.bind (noPan (M.pure t48_40)) fun t5_42 =>
 M.bind (noPan (M.pure (.int .i64 0))) fun t6_43 =>
 M.pure [a0, a1, .undef, .undef, t4_0, t5_42, t6_43, t20_11, (strip a1), t9_1, (strip t9_1), t11_2, t12_3, t13_4, t14_5, t15_6, .undef, (strip a0), (strip a1), t19_10, (strip t20_11), t21_12, (strip t20_11), t23_13, t24_14, (strip t20_11), t26_15, (strip t20_11), t28_16, t29_17, t30_18, t31_19, .undef, .undef, .undef, .undef, .undef, .undef, .undef, .undef, .undef, t41_33, t42_34, t43_35, (strip t44_39), t45_36, t46_37, t47_38, (strip t48_40)]) <|
 chk
 (M.bind (noPan (M.pure (strip t20_11))) fun t41_55 =>
 M.bind (noPan (nc P t41_55)) fun t42_56 =>
 M.bind (noPan (fa 2 t42_56)) fun t43_57 =>
 M.bind (noPan (M.pure (strip t20_11))) fun t45_58 =>
 M.bind (noPan (nc P t45_58)) fun t46_59 =>
 M.bind (noPan (fa 1 t46_59)) fun t47_60 =>
 M.bind (noPan (ld none true t47_60)) fun t48_61 =>
 M.bind (noPan (ld (some 17) true t43_57)) fun t44_62 =>
 M.bind (noPan (st 17 true t4_0 t44_62)) fun _ =>
 M.bind (noPan (M.pure t48_61)) fun t5_64 =>
 M.bind (noPan (M.pure (.int .i64 0))) fun t6_65 =>
 M.pure [a0, a1, .undef, .undef, t4_0, t5_64, t6_65, t20_11, (strip a1), t9_1, (strip t9_1), t11_2, t12_3, t13_4, t14_5, t15_6, .undef, (strip a0), (strip a1), t19_10, (strip t20_11), t21_12, (strip t20_11), t23_13, t24_14, (strip t20_11), t26_15, (strip t20_11), t28_16, t29_17, t30_18, t31_19, .undef, .undef, .undef, .undef, .undef, .undef, .undef, .undef, .undef, t41_55, t42_56, t43_57, (strip t44_62), t45_58, t46_59, t47_60, (strip t48_61)])
 (M.bind (noPan (M.pure (strip t20_11))) fun t41_33 =>
 M.bind (noPan (nc P t41_33)) fun t42_34 =>
 M.bind (noPan (fa 2 t42_34)) fun t43_35 =>
 M.bind (noPan (M.pure (strip t20_11))) fun t45_36 =>
 M.bind (noPan (nc P t45_36)) fun t46_37 =>
 M.bind (noPan (fa 1 t46_37)) fun t47_38 =>
 M.bind (noPan (ld (some 17) true t43_35)) fun t44_39 =>
 M.bind (noPan (ld none true t47_38)) fun t48_40 =>
 M.bind (noPan (st 17 true t4_0 t44_39)) fun _ =>
 M.bind (noPan (M.pure t48_40)) fun t5_42 =>
 M.bind (noPan (M.pure (.int .i64 0))) fun t6_43 =>
 M.pure [a0, a1, .undef, .undef, t4_0, t5_42, t6_43, t20_11, (strip a1), t9_1, (strip t9_1), t11_2, t12_3, t13_4, t14_5, t15_6, .undef, (strip a0), (strip a1), t19_10, (strip t20_11), t21_12, (strip t20_11), t23_13, t24_14, (strip t20_11), t26_15, (strip t20_11), t28_16, t29_17, t30_18, t31_19, .undef, .undef, .undef, .undef, .undef, .undef, .undef, .undef, .undef, t41_33, t42_34, t43_35, (strip t44_39), t45_36, t46_37, t47_38, (strip t48_40)]) <|
 M.bind (noPan (M.pure (strip t20_11))) fun t41_66 =>
 M.bind (noPan (nc P t41_66)) fun t42_67 =>
 M.bind (noPan (fa 2 t42_67)) fun t43_68 =>
 M.bind (noPan (M.pure (strip t20_11))) fun t45_69 =>
 M.bind (noPan (nc P t45_69)) fun t46_70 =>
 M.bind (noPan (fa 1 t46_70)) fun t47_71 =>
 M.bind (noPan (ld (some 17) true t43_68)) fun t44_72 =>
 M.bind (noPan (ld none true t47_71)) fun t48_73 =>
 M.bind (noPan (st 17 true t4_0 t44_72)) fun _ =>
 M.bind (noPan (M.pure t48_73)) fun t5_75 =>
 M.bind (noPan (M.pure (.int .i64 0))) fun t6_76 =>
 M.bind (ld (some 17) true t4_0) fun t0_77 => guardM (!isTup t0_77) (resT t5_75 (resT t6_76 (M.pure (.tup [t0_77, t5_75, t6_76]))))))) := by
 rw [C, u03 _ _ rfl]; kernel_rfl
theorem u9m : C u40 [] =
 trunc (M.bind (C udf [(.int .i64 106)]) fun t1_0 =>
 M.bind (bi .eql .none t1_0 (.str ⟨#[105, 51, 50, 46, 97, 100, 100]⟩)) fun t2_1 =>
 resT t2_1 (M.pure t2_1)) := by
 rw [C, u03 _ _ rfl]; kernel_rfl
end Go.Proofs.YthidcpkcfoldmaaGreat.Pi.Q
namespace Go.Proofs.YthidcpkcfoldmaaGreat.Pi.Q
open Go Go.Proofs.YthidcpkcfoldmaaGreat.Pi
noncomputable def u07 (v1 v2 v3 v4 v5 : PV) : M PV := atP P X u5n [1, 1, 1, 1] (mkEnv 176 0 [(1, v1), (2, v2), (3, v3), (4, v4), (5, v5)])
noncomputable def u1v (v1 v2 v3 v4 v5 v46 v106 : PV) : M PV := atP P X u5n [1, 1, 1, 1, 0, 1, 0, 1, 1, 1, 1, 1, 1, 1, 1, 1, 1, 1, 1, 1] (mkEnv 176 0 [(1, v1), (2, v2), (3, v3), (4, v4), (5, v5), (46, v46), (106, v106)])
noncomputable def u04 (v2 v3 v5 : PV) : M PV := atP P X u5n [1, 1, 1, 1, 1] (mkEnv 176 0 [(2, v2), (3, v3), (5, v5)])
theorem u0a (v1 v2 v3 v4 v5 : PV) : u07 v1 v2 v3 v4 v5 =
 M.bind (fa 2 v4) fun t45_0 =>
 M.bind (ld none false t45_0) fun t46_1 =>
 M.bind (bi .eql .none t46_1 (.int .i64 0)) fun t54_2 =>
 condM t54_2
 (M.bind (C u0h [(strip (strip v5)), (.bool false)]) fun t56_3 =>
 u04 v2 v3 v5)
 (M.bind (bi .eql .none t46_1 (.int .i64 2)) fun t58_4 =>
 condM t58_4
 (M.bind (fa 7 v1) fun t60_5 =>
 M.bind (ld (some 4) false t60_5) fun t61_6 =>
 M.bind (C u22 [(strip t61_6)]) fun t62_7 =>
 M.bind (ex 0 t62_7) fun t63_8 =>
 M.bind (ex 1 (tupDrop 0 t62_7)) fun t64_9 =>
 M.bind (C u2j [(strip (strip v5)), (strip t63_8), (strip t64_9)]) fun t65_10 =>
 u04 v2 v3 v5)
 (M.bind (bi .eql .none t46_1 (.int .i64 3)) fun t67_11 =>
 condM t67_11
 (M.bind (ld (some 17) false v1) fun t69_12 =>
 M.bind (C u5b [(strip (strip v5)), (strip t69_12)]) fun t70_13 =>
 u04 v2 v3 v5)
 (M.bind (bi .eql .none t46_1 (.int .i64 4)) fun t72_14 =>
 condM t72_14
 (M.bind (fa 1 v1) fun t74_15 =>
 M.bind (ld none false t74_15) fun t75_16 =>
 M.bind (cv (.int .u64) true t75_16) fun t76_17 =>
 M.bind (C u0n [(strip (strip v5)), (strip t76_17)]) fun t77_18 =>
 u04 v2 v3 v5)
 (M.bind (bi .eql .none t46_1 (.int .i64 5)) fun t79_19 =>
 condM t79_19
 (M.bind (fa 1 v1) fun t81_20 =>
 M.bind (ld none false t81_20) fun t82_21 =>
 M.bind (cv (.int .u64) true t82_21) fun t83_22 =>
 M.bind (C u0n [(strip (strip v5)), (strip t83_22)]) fun t84_23 =>
 M.bind (fa 2 v1) fun t86_24 =>
 M.bind (ld none false t86_24) fun t87_25 =>
 M.bind (cv (.int .u64) true t87_25) fun t88_26 =>
 M.bind (C u0n [(strip (strip v5)), (strip t88_26)]) fun t89_27 =>
 u04 v2 v3 v5)
 (M.bind (bi .eql .none t46_1 (.int .i64 16)) fun t91_28 =>
 condM t91_28
 (M.bind (fa 3 v1) fun t93_29 =>
 M.bind (ld none false t93_29) fun t94_30 =>
 M.bind (bi .lss .none t94_30 (.int .u64 4294967296)) fun t95_31 =>
 M.bind (C u0h [(strip (strip v5)), (strip t95_31)]) fun t96_32 =>
 M.bind (fa 1 v1) fun t98_33 =>
 M.bind (ld none false t98_33) fun t99_34 =>
 M.bind (cv (.int .u64) true t99_34) fun t100_35 =>
 M.bind (C u0n [(strip (strip v5)), (strip t100_35)]) fun t101_36 =>
 M.bind (fa 3 v1) fun t103_37 =>
 M.bind (ld none false t103_37) fun t104_38 =>
 M.bind (C u0n [(strip (strip v5)), (strip t104_38)]) fun t105_39 =>
 u04 v2 v3 v5)
 (M.bind (bi .eql .none t46_1 (.int .i64 6)) fun t107_40 =>
 condM t107_40
 (u1v v1 v2 v3 v4 v5 t46_1 t107_40)
 (M.bind (bi .eql .none t46_1 (.int .i64 7)) fun t108_41 =>
 u1v v1 v2 v3 v4 v5 t46_1 t108_41))))))) :=
 (u0j P X _ _ _).trans (by kernel_rfl)
theorem u01 (v1 v2 v3 v4 v5 v46 v106 : PV) : u1v v1 v2 v3 v4 v5 v46 v106 =
 condM v106
 (M.bind (ld (some 17) false v1) fun t110_0 =>
 M.bind (fa 2 v4) fun t111_1 =>
 M.bind (ld none false t111_1) fun t112_2 =>
 M.bind (C u33 [(strip (strip v5)), (strip t110_0), (strip t112_2)]) fun t113_3 =>
 u04 v2 v3 v5)
 (M.bind (bi .eql .none v46 (.int .i64 8)) fun t115_4 =>
 condM t115_4
 (M.bind (fa 4 v1) fun t117_5 =>
 M.bind (ld (some 3) false t117_5) fun t118_6 =>
 M.bind (C u6m [(strip (strip v5)), (strip t118_6)]) fun t119_7 =>
 u04 v2 v3 v5)
 (M.bind (bi .eql .none v46 (.int .i64 13)) fun t121_8 =>
 condM t121_8
 (M.bind (fa 15 v1) fun t123_9 =>
 M.bind (ld none false t123_9) fun t124_10 =>
 M.bind (C u3k [(strip (strip v5)), (strip t124_10), (.int .i64 1)]) fun t125_11 =>
 M.bind (fa 15 v1) fun t127_12 =>
 M.bind (ld none false t127_12) fun t128_13 =>
 M.bind (lnL t128_13) fun t129_14 =>
 M.bind (bi .eql .none t129_14 (.int .i64 1)) fun t130_15 =>
 M.bind (gd (strip t130_15) true (fa 15 v1)) fun t132_16 =>
 M.bind (gd (strip t130_15) true (ld none false t132_16)) fun t133_17 =>
 M.bind (gd (strip t130_15) true (iaS 3 t133_17 (.int .i64 0))) fun t134_18 =>
 M.bind (gd (strip t130_15) true (fa 1 t134_18)) fun t135_19 =>
 M.bind (gd (strip t130_15) true (ld none false t135_19)) fun t136_20 =>
 M.bind (pick (strip t130_15) t136_20 (.bool false)) fun t137_21 =>
 M.bind (C u0h [(strip (strip v5)), (strip t137_21)]) fun t138_22 =>
 u04 v2 v3 v5)
 (M.bind (bi .eql .none v46 (.int .i64 14)) fun t140_23 =>
 condM t140_23
 (M.bind (fa 15 v1) fun t142_24 =>
 M.bind (ld none false t142_24) fun t143_25 =>
 M.bind (C u3k [(strip (strip v5)), (strip t143_25), (.int .i64 1)]) fun t144_26 =>
 M.bind (noPan (M.pure (strip v5))) fun t145_45 =>
 M.bind (noPan (fa 15 v1)) fun t146_46 =>
 M.bind (noPan (ld none false t146_46)) fun t147_47 =>
 M.bind (noPan (lnL t147_47)) fun t148_48 =>
 M.bind (noPan (bi .eql .none t148_48 (.int .i64 1))) fun t149_49 =>
 M.bind (noPan (M.pure (strip t149_49))) fun t150_50 =>
 M.bind (noPan (gd t150_50 true (fa 15 v1))) fun t151_51 =>
 M.bind (noPan (gd t150_50 true (fa 0 v1))) fun t156_52 =>
 M.bind (noPan (gd t150_50 true (ld none false t151_51))) fun t152_53 =>
 M.bind (noPan (gd t150_50 true (iaS 3 t152_53 (.int .i64 0)))) fun t153_54 =>
 M.bind (noPan (gd t150_50 true (fa 1 t153_54))) fun t154_55 =>
 M.bind (noPan (gd t150_50 true (ld none false t154_55))) fun t155_56 =>
 M.bind (noPan (gd t150_50 true (ld none false t156_52))) fun t157_57 =>
 M.bind (noPan (gd t150_50 true (bi .and .none t157_57 (.int .i64 1)))) fun t158_58 =>
 M.bind (noPan (gd t150_50 true (bi .eql .none t158_58 (.int .i64 1)))) fun t159_59 =>
 M.bind (noPan (gd t150_50 true (bi .eql .bool t155_56 t159_59))) fun t160_60 =>
 M.bind (noPan (pick t150_50 t160_60 (.bool false))) fun t161_61 =>
 M.bind (noPan (C u0h [(strip t145_45), (strip t161_61)])) fun t162_62 =>
 u04 v2 v3 v5)
 (M.bind (bi .eql .none v46 (.int .i64 15)) fun t164_63 =>
 condM t164_63
 (M.bind (ld (some 17) false v1) fun t166_64 =>
 M.bind (C u3v [(strip (strip v5)), (strip t166_64)]) fun t167_65 =>
 u04 v2 v3 v5)
 (M.bind (fa 2 v4) fun t48_66 =>
 M.bind (ld none false t48_66) fun t49_67 =>
 M.bind (fa 3 v1) fun t50_68 =>
 M.bind (ld none false t50_68) fun t51_69 =>
 M.bind (C u5q [(strip (strip v5)), (strip t49_67), (strip t51_69)]) fun t52_70 =>
 u04 v2 v3 v5))))) :=
 (u0j P X _ _ _).trans (by kernel_rfl)
theorem u3c (v2 v3 v5 : PV) : u04 v2 v3 v5 =
 M.bind (nc P (strip v5)) fun t169_0 =>
 M.bind (fa 1 t169_0) fun t170_1 =>
 M.bind (ld none false t170_1) fun t171_2 =>
 condM t171_2
 (M.pure (.tup [(.slice false true 0 []), (.int .i64 1)]))
 (M.bind (nc P (strip v5)) fun t173_3 =>
 M.bind (fa 0 t173_3) fun t174_4 =>
 M.bind (ld none true t174_4) fun t175_5 =>
 resT t175_5 (M.pure (.tup [t175_5, (.int .i64 0)]))) :=
 (u0j P X _ _ _).trans (by kernel_rfl)
theorem uas (a0 : PV) : C u5n [a0] =
 trunc (M.bind (bx 17 a0) fun t1_0 =>
 M.bind (fa 0 t1_0) fun t6_1 =>
 M.bind (ld none false t6_1) fun t7_2 =>
 M.bind (C u3m [(strip t7_2)]) fun t8_3 =>
 M.bind (al [(.int .i64 0), (.str ⟨#[]⟩), (.int .i64 0)]) fun t4_4 =>
 M.bind (st 3 true t4_4 t8_3) fun _ =>
 M.bind (bd [(.slice false true 0 []), (.bool false)] []) fun t9_6 =>
 M.bind (bx 2 t9_6) fun t10_7 =>
 M.bind (fa 0 t1_0) fun t11_8 =>
 M.bind (ld none false t11_8) fun t12_9 =>
 M.bind (bi .gtr .none t12_9 (.int .i64 255)) fun t13_10 =>
 condM t13_10
 (chk
 (M.bind (noPan (M.pure (strip t10_7))) fun t14_25 =>
 M.bind (noPan (M.pure (strip t10_7))) fun t15_26 =>
 M.bind (noPan (nc P t15_26)) fun t16_27 =>
 M.bind (noPan (fa 0 t16_27)) fun t17_28 =>
 M.bind (noPan (fa 0 t1_0)) fun t19_29 =>
 M.bind (noPan (ld none false t19_29)) fun t20_30 =>
 M.bind (noPan (bi .shr .none t20_30 (.int .u64 8))) fun t21_31 =>
 M.bind (noPan (cv (.int .u8) true t21_31)) fun t22_32 =>
 M.bind (noPan (bs true none [t22_32])) fun t23_33 =>
 M.bind (noPan (ld none true t17_28)) fun t18_34 =>
 M.bind (noPan (ap true 1 1 t18_34 t23_33)) fun t24_35 =>
 M.bind (noPan (nc P t14_25)) fun t25_36 =>
 M.bind (noPan (fa 0 t25_36)) fun t26_37 =>
 M.bind (noPan (st 1 true t26_37 t24_35)) fun _ =>
 M.pure [a0, t1_0, (PV.slice false true 0 []), (PV.int .i64 0), t4_4, t10_7, t6_1, t7_2, (strip t8_3), t9_6, (strip t10_7), t11_8, t12_9, t13_10, t14_25, t15_26, t16_27, t17_28, (strip t18_34), t19_29, t20_30, t21_31, t22_32, t23_33, (strip t24_35), t25_36, t26_37, PV.undef, PV.undef, PV.undef, PV.undef, PV.undef, PV.undef, PV.undef, PV.undef, PV.undef, PV.undef, PV.undef, PV.undef, PV.undef, PV.undef, PV.undef, PV.undef, PV.undef, PV.undef, PV.undef, PV.undef, PV.undef, PV.undef, PV.undef, PV.undef, PV.undef, PV.undef, PV.undef, PV.undef, PV.undef, PV.undef, PV.undef, PV.undef, PV.undef, PV.undef, PV.undef, PV.undef, PV.undef, PV.undef, PV.undef, PV.undef, PV.undef, PV.undef, PV.undef, PV.undef, PV.undef, PV.undef, PV.undef, PV.undef, PV.undef, PV.undef, PV.undef, PV.undef, PV.undef, PV.undef, PV.undef, PV.undef, PV.undef, PV.undef, PV.undef, PV.undef, PV.undef, PV.undef, PV.undef, PV.undef, PV.undef, PV.undef, PV.undef, PV.undef, PV.undef, PV.undef, PV.undef, PV.undef, PV.undef, PV.undef, PV.undef, PV.undef, PV.undef, PV.undef, PV.undef, PV.undef, PV.undef, PV.undef, PV.undef, PV.undef, PV.undef, PV.undef, PV.undef, PV.undef, PV.undef, PV.undef, PV.undef, PV.undef, PV.undef, PV.undef, PV.undef, PV.undef, PV.undef, PV.undef, PV.undef, PV.undef, PV.undef, PV.undef, PV.undef, PV.undef, PV.undef, PV.undef, PV.undef, PV.undef, PV.undef, PV.undef, PV.undef, PV.undef, PV.undef, PV.undef, PV.undef, PV.undef, PV.undef, PV.undef, PV.undef, PV.undef, PV.undef, PV.undef, PV.undef, PV.undef, PV.undef, PV.undef, PV.undef, PV.undef, PV.undef, PV.undef, PV.undef, PV.undef, PV.undef, PV.undef, PV.undef, PV.undef, PV.undef, PV.undef, PV.undef, PV.undef, PV.undef, PV.undef, PV.undef, PV.undef, PV.undef, PV.undef, PV.undef, PV.undef, PV.undef])
 (M.bind (noPan (M.pure (strip t10_7))) fun t14_11 =>
 M.bind (noPan (M.pure (strip t10_7))) fun t15_12 =>
 M.bind (noPan (nc P t15_12)) fun t16_13 =>
 M.bind (noPan (fa 0 t16_13)) fun t17_14 =>
 M.bind (noPan (fa 0 t1_0)) fun t19_15 =>
 M.bind (noPan (ld none true t17_14)) fun t18_16 =>
 M.bind (noPan (ld none false t19_15)) fun t20_17 =>
 M.bind (noPan (bi .shr .none t20_17 (.int .u64 8))) fun t21_18 =>
 M.bind (noPan (cv (.int .u8) true t21_18)) fun t22_19 =>
 M.bind (noPan (bs true none [t22_19])) fun t23_20 =>
 M.bind (noPan (ap true 1 1 t18_16 t23_20)) fun t24_21 =>
 M.bind (noPan (nc P t14_11)) fun t25_22 =>
 M.bind (noPan (fa 0 t25_22)) fun t26_23 =>
 M.bind (noPan (st 1 true t26_23 t24_21)) fun _ =>
 M.pure [a0, t1_0, (PV.slice false true 0 []), (PV.int .i64 0), t4_4, t10_7, t6_1, t7_2, (strip t8_3), t9_6, (strip t10_7), t11_8, t12_9, t13_10, t14_11, t15_12, t16_13, t17_14, (strip t18_16), t19_15, t20_17, t21_18, t22_19, t23_20, (strip t24_21), t25_22, t26_23, PV.undef, PV.undef, PV.undef, PV.undef, PV.undef, PV.undef, PV.undef, PV.undef, PV.undef, PV.undef, PV.undef, PV.undef, PV.undef, PV.undef, PV.undef, PV.undef, PV.undef, PV.undef, PV.undef, PV.undef, PV.undef, PV.undef, PV.undef, PV.undef, PV.undef, PV.undef, PV.undef, PV.undef, PV.undef, PV.undef, PV.undef, PV.undef, PV.undef, PV.undef, PV.undef, PV.undef, PV.undef, PV.undef, PV.undef, PV.undef, PV.undef, PV.undef, PV.undef, PV.undef, PV.undef, PV.undef, PV.undef, PV.undef, PV.undef, PV.undef, PV.undef, PV.undef, PV.undef, PV.undef, PV.undef, PV.undef, PV.undef, PV.undef, PV.undef, PV.undef, PV.undef, PV.undef, PV.undef, PV.undef, PV.undef, PV.undef, PV.undef, PV.undef, PV.undef, PV.undef, PV.undef, PV.undef, PV.undef, PV.undef, PV.undef, PV.undef, PV.undef, PV.undef, PV.undef, PV.undef, PV.undef, PV.undef, PV.undef, PV.undef, PV.undef, PV.undef, PV.undef, PV.undef, PV.undef, PV.undef, PV.undef, PV.undef, PV.undef, PV.undef, PV.undef, PV.undef, PV.undef, PV.undef, PV.undef, PV.undef, PV.undef, PV.undef, PV.undef, PV.undef, PV.undef, PV.undef, PV.undef, PV.undef, PV.undef, PV.undef, PV.undef, PV.undef, PV.undef, PV.undef, PV.undef, PV.undef, PV.undef, PV.undef, PV.undef, PV.undef, PV.undef, PV.undef, PV.undef, PV.undef, PV.undef, PV.undef, PV.undef, PV.undef, PV.undef, PV.undef, PV.undef, PV.undef, PV.undef, PV.undef, PV.undef, PV.undef, PV.undef, PV.undef, PV.undef, PV.undef, PV.undef, PV.undef, PV.undef, PV.undef, PV.undef, PV.undef, PV.undef, PV.undef, PV.undef]) <|
 M.bind (noPan (M.pure (strip t10_7))) fun t14_39 =>
 M.bind (noPan (M.pure (strip t10_7))) fun t15_40 =>
 M.bind (noPan (nc P t15_40)) fun t16_41 =>
 M.bind (noPan (fa 0 t16_41)) fun t17_42 =>
 M.bind (noPan (fa 0 t1_0)) fun t19_43 =>
 M.bind (noPan (ld none true t17_42)) fun t18_44 =>
 M.bind (noPan (ld none false t19_43)) fun t20_45 =>
 M.bind (noPan (bi .shr .none t20_45 (.int .u64 8))) fun t21_46 =>
 M.bind (noPan (cv (.int .u8) true t21_46)) fun t22_47 =>
 M.bind (noPan (bs true none [t22_47])) fun t23_48 =>
 M.bind (noPan (ap true 1 1 t18_44 t23_48)) fun t24_49 =>
 M.bind (noPan (nc P t14_39)) fun t25_50 =>
 M.bind (noPan (fa 0 t25_50)) fun t26_51 =>
 M.bind (noPan (st 1 true t26_51 t24_49)) fun _ =>
 M.bind (fa 0 t1_0) fun t28_53 =>
 M.bind (ld none false t28_53) fun t29_54 =>
 M.bind (bi .and .none t29_54 (.int .i64 255)) fun t30_55 =>
 M.bind (cv (.int .u64) true t30_55) fun t31_56 =>
 M.bind (C u0n [(strip (strip t10_7)), (strip t31_56)]) fun t32_57 =>
 u07 t1_0 (.slice false true 0 []) (.int .i64 0) t4_4 t10_7)
 (chk
 (M.bind (noPan (M.pure (strip t10_7))) fun t33_71 =>
 M.bind (noPan (M.pure (strip t10_7))) fun t34_72 =>
 M.bind (noPan (nc P t34_72)) fun t35_73 =>
 M.bind (noPan (fa 0 t35_73)) fun t36_74 =>
 M.bind (noPan (fa 0 t1_0)) fun t38_75 =>
 M.bind (noPan (ld none false t38_75)) fun t39_76 =>
 M.bind (noPan (cv (.int .u8) true t39_76)) fun t40_77 =>
 M.bind (noPan (bs true none [t40_77])) fun t41_78 =>
 M.bind (noPan (ld none true t36_74)) fun t37_79 =>
 M.bind (noPan (ap true 1 1 t37_79 t41_78)) fun t42_80 =>
 M.bind (noPan (nc P t33_71)) fun t43_81 =>
 M.bind (noPan (fa 0 t43_81)) fun t44_82 =>
 M.bind (noPan (st 1 true t44_82 t42_80)) fun _ =>
 M.pure [a0, t1_0, (PV.slice false true 0 []), (PV.int .i64 0), t4_4, t10_7, t6_1, t7_2, (strip t8_3), t9_6, (strip t10_7), t11_8, t12_9, t13_10, PV.undef, PV.undef, PV.undef, PV.undef, PV.undef, PV.undef, PV.undef, PV.undef, PV.undef, PV.undef, PV.undef, PV.undef, PV.undef, PV.undef, PV.undef, PV.undef, PV.undef, PV.undef, PV.undef, t33_71, t34_72, t35_73, t36_74, (strip t37_79), t38_75, t39_76, t40_77, t41_78, (strip t42_80), t43_81, t44_82, PV.undef, PV.undef, PV.undef, PV.undef, PV.undef, PV.undef, PV.undef, PV.undef, PV.undef, PV.undef, PV.undef, PV.undef, PV.undef, PV.undef, PV.undef, PV.undef, PV.undef, PV.undef, PV.undef, PV.undef, PV.undef, PV.undef, PV.undef, PV.undef, PV.undef, PV.undef, PV.undef, PV.undef, PV.undef, PV.undef, PV.undef, PV.undef, PV.undef, PV.undef, PV.undef, PV.undef, PV.undef, PV.undef, PV.undef, PV.undef, PV.undef, PV.undef, PV.undef, PV.undef, PV.undef, PV.undef, PV.undef, PV.undef, PV.undef, PV.undef, PV.undef, PV.undef, PV.undef, PV.undef, PV.undef, PV.undef, PV.undef, PV.undef, PV.undef, PV.undef, PV.undef, PV.undef, PV.undef, PV.undef, PV.undef, PV.undef, PV.undef, PV.undef, PV.undef, PV.undef, PV.undef, PV.undef, PV.undef, PV.undef, PV.undef, PV.undef, PV.undef, PV.undef, PV.undef, PV.undef, PV.undef, PV.undef, PV.undef, PV.undef, PV.undef, PV.undef, PV.undef, PV.undef, PV.undef, PV.undef, PV.undef, PV.undef, PV.undef, PV.undef, PV.undef, PV.undef, PV.undef, PV.undef, PV.undef, PV.undef, PV.undef, PV.undef, PV.undef, PV.undef, PV.undef, PV.undef, PV.undef, PV.undef, PV.undef, PV.undef, PV.undef, PV.undef, PV.undef, PV.undef, PV.undef, PV.undef, PV.undef, PV.undef, PV.undef, PV.undef, PV.undef, PV.undef, PV.undef, PV.undef, PV.undef, PV.undef, PV.undef, PV.undef, PV.undef, PV.undef, PV.undef])
 (M.bind (noPan (M.pure (strip t10_7))) fun t33_58 =>
 M.bind (noPan (M.pure (strip t10_7))) fun t34_59 =>
 M.bind (noPan (nc P t34_59)) fun t35_60 =>
 M.bind (noPan (fa 0 t35_60)) fun t36_61 =>
 M.bind (noPan (fa 0 t1_0)) fun t38_62 =>
 M.bind (noPan (ld none true t36_61)) fun t37_63 =>
 M.bind (noPan (ld none false t38_62)) fun t39_64 =>
 M.bind (noPan (cv (.int .u8) true t39_64)) fun t40_65 =>
 M.bind (noPan (bs true none [t40_65])) fun t41_66 =>
 M.bind (noPan (ap true 1 1 t37_63 t41_66)) fun t42_67 =>
 M.bind (noPan (nc P t33_58)) fun t43_68 =>
 M.bind (noPan (fa 0 t43_68)) fun t44_69 =>
 M.bind (noPan (st 1 true t44_69 t42_67)) fun _ =>
 M.pure [a0, t1_0, (PV.slice false true 0 []), (PV.int .i64 0), t4_4, t10_7, t6_1, t7_2, (strip t8_3), t9_6, (strip t10_7), t11_8, t12_9, t13_10, PV.undef, PV.undef, PV.undef, PV.undef, PV.undef, PV.undef, PV.undef, PV.undef, PV.undef, PV.undef, PV.undef, PV.undef, PV.undef, PV.undef, PV.undef, PV.undef, PV.undef, PV.undef, PV.undef, t33_58, t34_59, t35_60, t36_61, (strip t37_63), t38_62, t39_64, t40_65, t41_66, (strip t42_67), t43_68, t44_69, PV.undef, PV.undef, PV.undef, PV.undef, PV.undef, PV.undef, PV.undef, PV.undef, PV.undef, PV.undef, PV.undef, PV.undef, PV.undef, PV.undef, PV.undef, PV.undef, PV.undef, PV.undef, PV.undef, PV.undef, PV.undef, PV.undef, PV.undef, PV.undef, PV.undef, PV.undef, PV.undef, PV.undef, PV.undef, PV.undef, PV.undef, PV.undef, PV.undef, PV.undef, PV.undef, PV.undef, PV.undef, PV.undef, PV.undef, PV.undef, PV.undef, PV.undef, PV.undef, PV.undef, PV.undef, PV.undef, PV.undef, PV.undef, PV.undef, PV.undef, PV.undef, PV.undef, PV.undef, PV.undef, PV.undef, PV.undef, PV.undef, PV.undef, PV.undef, PV.undef, PV.undef, PV.undef, PV.undef, PV.undef, PV.undef, PV.undef, PV.undef, PV.undef, PV.undef, PV.undef, PV.undef, PV.undef, PV.undef, PV.undef, PV.undef, PV.undef, PV.undef, PV.undef, PV.undef, PV.undef, PV.undef, PV.undef, PV.undef, PV.undef, PV.undef, PV.undef, PV.undef, PV.undef, PV.undef, PV.undef, PV.undef, PV.undef, PV.undef, PV.undef, PV.undef, PV.undef, PV.undef, PV.undef, PV.undef, PV.undef, PV.undef, PV.undef, PV.undef, PV.undef, PV.undef, PV.undef, PV.undef, PV.undef, PV.undef, PV.undef, PV.undef, PV.undef, PV.undef, PV.undef, PV.undef, PV.undef, PV.undef, PV.undef, PV.undef, PV.undef, PV.undef, PV.undef, PV.undef, PV.undef, PV.undef, PV.undef, PV.undef, PV.undef, PV.undef, PV.undef, PV.undef]) <|
 M.bind (noPan (M.pure (strip t10_7))) fun t33_84 =>
 M.bind (noPan (M.pure (strip t10_7))) fun t34_85 =>
 M.bind (noPan (nc P t34_85)) fun t35_86 =>
 M.bind (noPan (fa 0 t35_86)) fun t36_87 =>
 M.bind (noPan (fa 0 t1_0)) fun t38_88 =>
 M.bind (noPan (ld none true t36_87)) fun t37_89 =>
 M.bind (noPan (ld none false t38_88)) fun t39_90 =>
 M.bind (noPan (cv (.int .u8) true t39_90)) fun t40_91 =>
 M.bind (noPan (bs true none [t40_91])) fun t41_92 =>
 M.bind (noPan (ap true 1 1 t37_89 t41_92)) fun t42_93 =>
 M.bind (noPan (nc P t33_84)) fun t43_94 =>
 M.bind (noPan (fa 0 t43_94)) fun t44_95 =>
 M.bind (noPan (st 1 true t44_95 t42_93)) fun _ =>
 u07 t1_0 (.slice false true 0 []) (.int .i64 0) t4_4 t10_7)) := by
 rw [C, u03 _ _ rfl]; kernel_rfl
noncomputable def u6c (v2 v3 v4 v13 v14 : PV) : M PV := atP P X u0l [1, 1, 0, 1, 0, 1] (mkEnv 158 0 [(2, v2), (3, v3), (4, v4), (13, v13), (14, v14)])
noncomputable def u1l (v2 v3 v4 v13 v118 : PV) : M PV := atP P X u0l [1, 1, 0, 1, 0, 1, 1, 1, 1, 1, 1, 1, 1, 1, 1, 1] (mkEnv 158 0 [(2, v2), (3, v3), (4, v4), (13, v13), (118, v118)])
noncomputable def u0p (v2 v3 v4 v148 : PV) : M PV := atP P X u0l [1, 1, 0, 1, 0, 1, 1, 1, 1, 1, 1, 1, 1, 1, 1, 1, 1, 1, 1, 1, 1, 1] (mkEnv 158 0 [(2, v2), (3, v3), (4, v4), (148, v148)])
theorem u06 (v2 v3 v4 v13 v14 : PV) : u6c v2 v3 v4 v13 v14 =
 condM v14
 (M.bind (fa 0 v2) fun t17_0 =>
 M.bind (ld none false t17_0) fun t18_1 =>
 M.bind (bi .eql .none t18_1 (.int .i64 4)) fun t19_2 =>
 M.bind (gd (strip t19_2) true (fa 13 v2)) fun t21_3 =>
 M.bind (gd (strip t19_2) true (ld none false t21_3)) fun t22_4 =>
 M.bind (gd (strip t19_2) true (fa 13 v3)) fun t23_5 =>
 M.bind (gd (strip t19_2) true (ld none false t23_5)) fun t24_6 =>
 M.bind (gd (strip t19_2) true (bi .neq .bool t22_4 t24_6)) fun t25_7 =>
 M.bind (gd (strip t19_2) true (M.pure (strip t25_7))) fun t26_8 =>
 M.bind (gd t26_8 false (fa 12 v2)) fun t27_9 =>
 M.bind (gd t26_8 false (ld none false t27_9)) fun t28_10 =>
 M.bind (gd t26_8 false (fa 12 v3)) fun t29_11 =>
 M.bind (gd t26_8 false (ld none false t29_11)) fun t30_12 =>
 M.bind (gd t26_8 false (C u3s [(strip t28_10), (strip t30_12)])) fun t31_13 =>
 M.bind (gd t26_8 false (un .not t31_13)) fun t32_14 =>
 M.bind (gd (strip t19_2) true (pick t26_8 (.bool true) t32_14)) fun t33_15 =>
 M.bind (pick (strip t19_2) t33_15 (.bool false)) fun t34_16 =>
 condM t34_16
 (M.pure (.bool false))
 (M.bind (fa 0 v2) fun t35_17 =>
 M.bind (ld none false t35_17) fun t36_18 =>
 M.bind (bi .eql .none t36_18 (.int .i64 31)) fun t37_19 =>
 M.bind (gd (strip t37_19) true (fa 16 v2)) fun t39_20 =>
 M.bind (gd (strip t37_19) true (ld none false t39_20)) fun t40_21 =>
 M.bind (gd (strip t37_19) true (fa 16 v3)) fun t41_22 =>
 M.bind (gd (strip t37_19) true (ld none false t41_22)) fun t42_23 =>
 M.bind (gd (strip t37_19) true (C u3f [(strip t40_21), (strip t42_23)])) fun t43_24 =>
 M.bind (gd (strip t37_19) true (un .not t43_24)) fun t44_25 =>
 M.bind (pick (strip t37_19) t44_25 (.bool false)) fun t45_26 =>
 condM t45_26
 (M.pure (.bool false))
 (M.bind (fa 7 v2) fun t46_27 =>
 M.bind (fa 0 t46_27) fun t47_28 =>
 M.bind (ld none false t47_28) fun t48_29 =>
 M.bind (fa 7 v3) fun t49_30 =>
 M.bind (fa 0 t49_30) fun t50_31 =>
 M.bind (ld none false t50_31) fun t51_32 =>
 M.bind (bi .eql .none t48_29 t51_32) fun t52_33 =>
 M.bind (gd (strip t52_33) true (fa 7 v2)) fun t54_34 =>
 M.bind (gd (strip t52_33) true (fa 1 t54_34)) fun t55_35 =>
 M.bind (gd (strip t52_33) true (ld (some 3) false t55_35)) fun t56_36 =>
 M.bind (gd (strip t52_33) true (fa 7 v3)) fun t57_37 =>
 M.bind (gd (strip t52_33) true (fa 1 t57_37)) fun t58_38 =>
 M.bind (gd (strip t52_33) true (ld (some 3) false t58_38)) fun t59_39 =>
 M.bind (gd (strip t52_33) true (C u7u [(strip t56_36), (strip t59_39)])) fun t60_40 =>
 M.bind (pick (strip t52_33) t60_40 (.bool false)) fun t61_41 =>
 M.bind (gd (strip t61_41) true (fa 11 v2)) fun t63_42 =>
 M.bind (gd (strip t61_41) true (ld none false t63_42)) fun t64_43 =>
 M.bind (gd (strip t61_41) true (fa 11 v3)) fun t65_44 =>
 M.bind (gd (strip t61_41) true (ld none false t65_44)) fun t66_45 =>
 M.bind (gd (strip t61_41) true (C u3s [(strip t64_43), (strip t66_45)])) fun t67_46 =>
 M.bind (pick (strip t61_41) t67_46 (.bool false)) fun t68_47 =>
 resT t68_47 (M.pure t68_47))))
 (M.bind (bi .eql .none v13 (.int .i64 4)) fun t70_48 =>
 condM t70_48
 (M.bind (fa 1 v2) fun t71_49 =>
 M.bind (ld none false t71_49) fun t72_50 =>
 M.bind (fa 1 v3) fun t73_51 =>
 M.bind (ld none false t73_51) fun t74_52 =>
 M.bind (bi .eql .none t72_50 t74_52) fun t75_53 =>
 resT t75_53 (M.pure t75_53))
 (M.bind (bi .eql .none v13 (.int .i64 5)) fun t77_54 =>
 condM t77_54
 (M.bind (fa 1 v2) fun t78_55 =>
 M.bind (ld none false t78_55) fun t79_56 =>
 M.bind (fa 1 v3) fun t80_57 =>
 M.bind (ld none false t80_57) fun t81_58 =>
 M.bind (bi .eql .none t79_56 t81_58) fun t82_59 =>
 M.bind (gd (strip t82_59) true (fa 2 v2)) fun t84_60 =>
 M.bind (gd (strip t82_59) true (ld none false t84_60)) fun t85_61 =>
 M.bind (gd (strip t82_59) true (fa 2 v3)) fun t86_62 =>
 M.bind (gd (strip t82_59) true (ld none false t86_62)) fun t87_63 =>
 M.bind (gd (strip t82_59) true (bi .eql .none t85_61 t87_63)) fun t88_64 =>
 M.bind (pick (strip t82_59) t88_64 (.bool false)) fun t89_65 =>
 resT t89_65 (M.pure t89_65))
 (M.bind (bi .eql .none v13 (.int .i64 16)) fun t91_66 =>
 condM t91_66
 (M.bind (fa 1 v2) fun t92_67 =>
 M.bind (ld none false t92_67) fun t93_68 =>
 M.bind (fa 1 v3) fun t94_69 =>
 M.bind (ld none false t94_69) fun t95_70 =>
 M.bind (bi .eql .none t93_68 t95_70) fun t96_71 =>
 M.bind (gd (strip t96_71) true (fa 3 v2)) fun t98_72 =>
 M.bind (gd (strip t96_71) true (ld none false t98_72)) fun t99_73 =>
 M.bind (gd (strip t96_71) true (fa 3 v3)) fun t100_74 =>
 M.bind (gd (strip t96_71) true (ld none false t100_74)) fun t101_75 =>
 M.bind (gd (strip t96_71) true (bi .eql .none t99_73 t101_75)) fun t102_76 =>
 M.bind (pick (strip t96_71) t102_76 (.bool false)) fun t103_77 =>
 resT t103_77 (M.pure t103_77))
 (M.bind (bi .eql .none v13 (.int .i64 6)) fun t105_78 =>
 condM t105_78
 (M.bind (fa 1 v2) fun t106_79 =>
 M.bind (ld none false t106_79) fun t107_80 =>
 M.bind (fa 1 v3) fun t108_81 =>
 M.bind (ld none false t108_81) fun t109_82 =>
 M.bind (bi .eql .none t107_80 t109_82) fun t110_83 =>
 M.bind (gd (strip t110_83) true (fa 14 v2)) fun t112_84 =>
 M.bind (gd (strip t110_83) true (ld none false t112_84)) fun t113_85 =>
 M.bind (gd (strip t110_83) true (fa 14 v3)) fun t114_86 =>
 M.bind (gd (strip t110_83) true (ld none false t114_86)) fun t115_87 =>
 M.bind (gd (strip t110_83) true (C u4p [(strip t113_85), (strip t115_87)])) fun t116_88 =>
 M.bind (pick (strip t110_83) t116_88 (.bool false)) fun t117_89 =>
 resT t117_89 (M.pure t117_89))
 (M.bind (bi .eql .none v13 (.int .i64 7)) fun t119_90 =>
 condM t119_90
 (u1l v2 v3 v4 v13 t119_90)
 (M.bind (bi .eql .none v13 (.int .i64 13)) fun t120_91 =>
 condM t120_91
 (u1l v2 v3 v4 v13 t120_91)
 (M.bind (bi .eql .none v13 (.int .i64 14)) fun t121_92 =>
 u1l v2 v3 v4 v13 t121_92))))))) :=
 (u0j P X _ _ _).trans (by kernel_rfl)
theorem u02 (v2 v3 v4 v13 v118 : PV) : u1l v2 v3 v4 v13 v118 =
 condM v118
 (M.bind (fa 15 v2) fun t122_0 =>
 M.bind (ld none false t122_0) fun t123_1 =>
 M.bind (fa 15 v3) fun t124_2 =>
 M.bind (ld none false t124_2) fun t125_3 =>
 M.bind (C u4e [(strip t123_1), (strip t125_3)]) fun t126_4 =>
 resT t126_4 (M.pure t126_4))
 (M.bind (bi .eql .none v13 (.int .i64 15)) fun t128_5 =>
 condM t128_5
 (M.bind (fa 1 v2) fun t129_6 =>
 M.bind (ld none false t129_6) fun t130_7 =>
 M.bind (fa 1 v3) fun t131_8 =>
 M.bind (ld none false t131_8) fun t132_9 =>
 M.bind (bi .eql .none t130_7 t132_9) fun t133_10 =>
 M.bind (gd (strip t133_10) true (fa 15 v2)) fun t135_11 =>
 M.bind (gd (strip t133_10) true (ld none false t135_11)) fun t136_12 =>
 M.bind (gd (strip t133_10) true (fa 15 v3)) fun t137_13 =>
 M.bind (gd (strip t133_10) true (ld none false t137_13)) fun t138_14 =>
 M.bind (gd (strip t133_10) true (C u4e [(strip t136_12), (strip t138_14)])) fun t139_15 =>
 M.bind (pick (strip t133_10) t139_15 (.bool false)) fun t140_16 =>
 resT t140_16 (M.pure t140_16))
 (M.bind (bi .eql .none v13 (.int .i64 8)) fun t142_17 =>
 condM t142_17
 (M.bind (fa 4 v2) fun t143_18 =>
 M.bind (ld (some 3) false t143_18) fun t144_19 =>
 M.bind (fa 4 v3) fun t145_20 =>
 M.bind (ld (some 3) false t145_20) fun t146_21 =>
 M.bind (bi .eql (.struct [.int, .int, .int]) t144_19 t146_21) fun t147_22 =>
 resT t147_22 (M.pure t147_22))
 (M.bind (bi .eql .none v13 (.int .i64 9)) fun t149_23 =>
 condM t149_23
 (u0p v2 v3 v4 t149_23)
 (M.bind (bi .eql .none v13 (.int .i64 10)) fun t150_24 =>
 condM t150_24
 (u0p v2 v3 v4 t150_24)
 (M.bind (bi .eql .none v13 (.int .i64 11)) fun t151_25 =>
 condM t151_25
 (u0p v2 v3 v4 t151_25)
 (M.bind (bi .eql .none v13 (.int .i64 12)) fun t152_26 =>
 u0p v2 v3 v4 t152_26)))))) :=
 (u0j P X _ _ _).trans (by kernel_rfl)
theorem u00 (v2 v3 v4 v148 : PV) : u0p v2 v3 v4 v148 =
 condM v148
 (M.bind (fa 3 v2) fun t153_0 =>
 M.bind (ld none false t153_0) fun t154_1 =>
 M.bind (fa 3 v3) fun t155_2 =>
 M.bind (ld none false t155_2) fun t156_3 =>
 M.bind (bi .eql .none t154_1 t156_3) fun t157_4 =>
 resT t157_4 (M.pure t157_4))
 (M.pure (.bool true)) :=
 (u0j P X _ _ _).trans (by kernel_rfl)
theorem u0x (a0 a1 : PV) : C u0l [a0, a1] =
 trunc (M.bind (bx 17 a0) fun t2_0 =>
 M.bind (bx 17 a1) fun t3_1 =>
 M.bind (fa 0 t2_0) fun t5_2 =>
 M.bind (ld none false t5_2) fun t6_3 =>
 M.bind (fa 0 t3_1) fun t7_4 =>
 M.bind (ld none false t7_4) fun t8_5 =>
 M.bind (bi .neq .none t6_3 t8_5) fun t9_6 =>
 condM t9_6
 (M.pure (.bool false))
 (M.bind (fa 0 t2_0) fun t10_7 =>
 M.bind (ld none false t10_7) fun t11_8 =>
 M.bind (C u3m [(strip t11_8)]) fun t12_9 =>
 M.bind (fd 2 none t12_9) fun t13_10 =>
 M.bind (bi .eql .none t13_10 (.int .i64 2)) fun t15_11 =>
 condM t15_11
 (u6c t2_0 t3_1 (.bool false) t13_10 t15_11)
 (M.bind (bi .eql .none t13_10 (.int .i64 3)) fun t16_12 =>
 u6c t2_0 t3_1 (.bool false) t13_10 t16_12))) := by
 rw [C, u03 _ _ rfl]; kernel_rfl
theorem ue2 : C u7k [] =
 trunc (M.bind (al [.nilfn, .nilfn, .nilfn, .nilfn, .nilfn, .nilfn, .nilfn, .nilfn, .nilfn, .nilfn, .nilfn, .nilfn, .nilfn, .nilfn, .nilfn, .nilfn, .nilfn]) fun t0_0 =>
 M.bind (bd [.nilfn, .nilfn, .nilfn, .nilfn, .nilfn, .nilfn, .nilfn, .nilfn, .nilfn, .nilfn, .nilfn, .nilfn, .nilfn, .nilfn, .nilfn, .nilfn, .nilfn] [(0, 1, (.fn u11 [] [])), (1, 1, (.fn u11 [] [])), (2, 1, (.fn u21 [] [])), (3, 1, (.fn u1z [] [])), (4, 1, (.fn u2w [] [])), (5, 1, (.fn u4f [] [])), (6, 1, (.fn u23 [] [])), (7, 1, (.fn u1r [] [])), (8, 1, (.fn u2q [] [])), (9, 1, (.fn u3x [] [])), (10, 1, (.fn u3t [] [])), (11, 1, (.fn u3u [] [])), (12, 1, (.fn u3n [] [])), (13, 1, (.fn u35 [] [])), (14, 1, (.fn u38 [] [])), (15, 1, (.fn u2k [] [])), (16, 1, (.fn u44 [] []))]) fun t1_1 =>
 M.bind (st 17 true t0_0 t1_1) fun _ =>
 M.bind (ld (some 17) true t0_0) fun t0_3 => guardM (!isTup t0_3) (M.pure t0_3)) := by
 rw [C, u03 _ _ rfl]; kernel_rfl
noncomputable def u0z (v0 v2 v3 v4 : PV) : M PV := atP P X u1u [1, 1, 1, 1] (mkEnv 71 0 [(0, v0), (2, v2), (3, v3), (4, v4)])
noncomputable def u2z (v0 v2 v4 v5 : PV) : M PV := atP P X u1u [1, 1, 1, 1, 1, 1] (mkEnv 71 0 [(0, v0), (2, v2), (4, v4), (5, v5)])
theorem u74 (v0 v2 v3 v4 : PV) : u0z v0 v2 v3 v4 =
 M.bind (C u3m [(strip (strip v4))]) fun t57_0 =>
 M.bind (al [(.int .i64 0), (.str ⟨#[]⟩), (.int .i64 0)]) fun t5_1 =>
 M.bind (st 3 true t5_1 t57_0) fun _ =>
 M.bind (fa 2 t5_1) fun t58_3 =>
 M.bind (ld none false t58_3) fun t59_4 =>
 M.bind (bi .eql .none t59_4 (.int .i64 0)) fun t60_5 =>
 condM t60_5
 (M.bind (C u0g [(strip (strip v0)), (strip (strip v3)), (.int .i64 4)]) fun t63_6 =>
 u2z v0 v2 v4 t5_1)
 (u2z v0 v2 v4 t5_1) :=
 (u0j P X _ _ _).trans (by kernel_rfl)
theorem u4c (v0 v2 v4 v5 : PV) : u2z v0 v2 v4 v5 =
 M.bind (nc P (strip v0)) fun t66_0 =>
 M.bind (fa 2 t66_0) fun t67_1 =>
 M.bind (fa 0 t67_1) fun t68_2 =>
 M.bind (st 1 true t68_2 v4) fun _ =>
 M.bind (fa 2 v5) fun t69_4 =>
 M.bind (ld none true t69_4) fun t70_5 =>
 resT t70_5 (M.pure t70_5) :=
 (u0j P X _ _ _).trans (by kernel_rfl)
theorem u6s (a0 : PV) : C u1u [a0] =
 trunc (M.bind (nc P (strip a0)) fun t7_0 =>
 M.bind (fa 1 t7_0) fun t8_1 =>
 M.bind (ld none true t8_1) fun t9_2 =>
 M.bind (C u1f [(strip (strip a0)), (.int .u8 255)]) fun t11_3 =>
 M.bind (cv (.int .i64) true t11_3) fun t12_4 =>
 M.bind (nc P (strip a0)) fun t15_5 =>
 M.bind (fa 20 t15_5) fun t16_6 =>
 M.bind (ld none false t16_6) fun t17_7 =>
 M.bind (bi .neq .none t17_7 (.int .i64 0)) fun t18_8 =>
 condM t18_8
 (M.pure (.int .i64 0))
 (M.bind (bi .eql .none (strip t12_4) (.int .i64 253)) fun t21_9 =>
 condM t21_9
 (M.bind (C u0g [(strip (strip a0)), (strip (strip t9_2)), (.int .i64 8)]) fun t24_10 =>
 u0z a0 (.int .i64 0) t9_2 t12_4)
 (M.bind (bi .eql .none (strip t12_4) (.int .i64 251)) fun t27_11 =>
 M.bind (gd (strip t27_11) false (M.pure (strip t12_4))) fun t29_12 =>
 M.bind (gd (strip t27_11) false (bi .eql .none t29_12 (.int .i64 252))) fun t30_13 =>
 M.bind (pick (strip t27_11) (.bool true) t30_13) fun t31_14 =>
 condM t31_14
 (M.bind (bi .shl .none (strip t12_4) (.int .u64 8)) fun t33_15 =>
 M.bind (C u1n [(strip (strip a0)), (.int .u32 255), (.int .i64 4)]) fun t35_16 =>
 M.bind (cv (.int .i64) true t35_16) fun t36_17 =>
 M.bind (bi .or .none t33_15 t36_17) fun t37_18 =>
 M.bind (nc P (strip a0)) fun t39_19 =>
 M.bind (fa 20 t39_19) fun t40_20 =>
 M.bind (ld none false t40_20) fun t41_21 =>
 M.bind (bi .eql .none t41_21 (.int .i64 4)) fun t42_22 =>
 M.bind (gd (strip t42_22) true (M.pure (strip a0))) fun t44_23 =>
 M.bind (gd (strip t42_22) true (nc P t44_23)) fun t45_24 =>
 M.bind (gd (strip t42_22) true (fa 19 t45_24)) fun t46_25 =>
 M.bind (gd (strip t42_22) true (ld none false t46_25)) fun t47_26 =>
 M.bind (gd (strip t42_22) true (M.pure (strip t9_2))) fun t48_27 =>
 M.bind (gd (strip t42_22) true (bi .add .none t48_27 (.int .i64 1))) fun t49_28 =>
 M.bind (gd (strip t42_22) true (bi .eql .none t47_26 t49_28)) fun t50_29 =>
 M.bind (pick (strip t42_22) t50_29 (.bool false)) fun t51_30 =>
 condM t51_30
 (M.bind (nc P (strip a0)) fun t54_31 =>
 M.bind (fa 19 t54_31) fun t55_32 =>
 M.bind (st 1 true t55_32 t9_2) fun _ =>
 u0z a0 (.int .i64 0) (strip t9_2) t37_18)
 (u0z a0 (.int .i64 0) t9_2 t37_18))
 (u0z a0 (.int .i64 0) t9_2 t12_4)))) := by
 rw [C, u03 _ _ rfl]; kernel_rfl
end Go.Proofs.YthidcpkcfoldmaaGreat.Pi.Q
namespace Go.Proofs.YthidcpkcfoldmaaGreat.Pi.Q
open Go Go.Proofs.YthidcpkcfoldmaaGreat.Pi
theorem ujb (a0 : PV) : C udf [a0] =
 trunc (M.bind (C u3m [(strip (strip a0))]) fun t4_0 =>
 M.bind (fd 1 none t4_0) fun t5_1 =>
 resT t5_1 (M.pure t5_1)) := by
 rw [C, u03 _ _ rfl]; kernel_rfl
theorem uiu (a0 : PV) : C u3m [a0] =
 trunc (M.bind (al [(.int .i64 0), (.str ⟨#[]⟩), (.int .i64 0)]) fun t2_0 =>
 M.bind (bi .geq .none (strip a0) (.int .i64 0)) fun t4_1 =>
 M.bind (gd (strip t4_1) true (M.pure (strip a0))) fun t6_2 =>
 M.bind (gd (strip t4_1) true (bi .leq .none t6_2 (.int .i64 196))) fun t7_3 =>
 M.bind (pick (strip t4_1) t7_3 (.bool false)) fun t8_4 =>
 condM t8_4
 (M.bind (C u7n []) fun t9_5 =>
 M.bind (C u63 [(strip t9_5), (strip (strip a0))]) fun t11_6 =>
 M.bind (st 3 true t2_0 t11_6) fun _ =>
 M.bind (ld (some 3) true t2_0) fun t0_8 => guardM (!isTup t0_8) (M.pure t0_8))
 (M.bind (C u8a []) fun t12_9 =>
 M.bind (C u63 [(strip t12_9), (strip (strip a0))]) fun t14_10 =>
 M.bind (st 3 true t2_0 t14_10) fun _ =>
 M.bind (ld (some 3) true t2_0) fun t0_12 => guardM (!isTup t0_12) (M.pure t0_12))) := by
 rw [C, u03 _ _ rfl]; kernel_rfl
theorem uh9 (a0 a1 : PV) : C u0n [a0, a1] =
 trunc (chk
 (M.bind (noPan (M.pure (strip a0))) fun t4_11 =>
 M.bind (noPan (M.pure (strip a0))) fun t5_12 =>
 M.bind (noPan (nc P t5_12)) fun t6_13 =>
 M.bind (noPan (fa 0 t6_13)) fun t7_14 =>
 M.bind (noPan (M.pure (strip a1))) fun t9_15 =>
 M.bind (noPan (C u7f [(strip t9_15)])) fun t10_16 =>
 M.bind (noPan (ld none true t7_14)) fun t8_17 =>
 M.bind (noPan (ap true 1 1 t8_17 t10_16)) fun t11_18 =>
 M.bind (noPan (nc P t4_11)) fun t12_19 =>
 M.bind (noPan (fa 0 t12_19)) fun t13_20 =>
 M.bind (noPan (st 1 true t13_20 t11_18)) fun _ =>
 M.pure [a0, a1, .undef, .undef, t4_11, t5_12, t6_13, t7_14, (strip t8_17), t9_15, t10_16, (strip t11_18), t12_19, t13_20])
 (M.bind (noPan (M.pure (strip a0))) fun t4_0 =>
 M.bind (noPan (M.pure (strip a0))) fun t5_1 =>
 M.bind (noPan (nc P t5_1)) fun t6_2 =>
 M.bind (noPan (fa 0 t6_2)) fun t7_3 =>
 M.bind (noPan (M.pure (strip a1))) fun t9_4 =>
 M.bind (noPan (ld none true t7_3)) fun t8_5 =>
 M.bind (noPan (C u7f [(strip t9_4)])) fun t10_6 =>
 M.bind (noPan (ap true 1 1 t8_5 t10_6)) fun t11_7 =>
 M.bind (noPan (nc P t4_0)) fun t12_8 =>
 M.bind (noPan (fa 0 t12_8)) fun t13_9 =>
 M.bind (noPan (st 1 true t13_9 t11_7)) fun _ =>
 M.pure [a0, a1, .undef, .undef, t4_0, t5_1, t6_2, t7_3, (strip t8_5), t9_4, t10_6, (strip t11_7), t12_8, t13_9]) <|
 M.bind (noPan (M.pure (strip a0))) fun t4_22 =>
 M.bind (noPan (M.pure (strip a0))) fun t5_23 =>
 M.bind (noPan (nc P t5_23)) fun t6_24 =>
 M.bind (noPan (fa 0 t6_24)) fun t7_25 =>
 M.bind (noPan (M.pure (strip a1))) fun t9_26 =>
 M.bind (noPan (ld none true t7_25)) fun t8_27 =>
 M.bind (noPan (C u7f [(strip t9_26)])) fun t10_28 =>
 M.bind (noPan (ap true 1 1 t8_27 t10_28)) fun t11_29 =>
 M.bind (noPan (nc P t4_22)) fun t12_30 =>
 M.bind (noPan (fa 0 t12_30)) fun t13_31 =>
 M.bind (noPan (st 1 true t13_31 t11_29)) fun _ =>
 M.pure (.tup [])) := by
 rw [C, u03 _ _ rfl]; kernel_rfl
theorem ucy (a0 a1 : PV) : C u0h [a0, a1] =
 trunc (M.bind (nc P (strip a0)) fun t6_0 =>
 M.bind (fa 1 t6_0) fun t7_1 =>
 M.bind (ld none false t7_1) fun t8_2 =>
 M.bind (gd (strip t8_2) false (M.pure (strip a1))) fun t10_3 =>
 M.bind (gd (strip t8_2) false (un .not t10_3)) fun t11_4 =>
 M.bind (pick (strip t8_2) (.bool true) t11_4) fun t12_5 =>
 M.bind (nc P (strip a0)) fun t13_6 =>
 M.bind (fa 1 t13_6) fun t14_7 =>
 M.bind (st 1 true t14_7 t12_5) fun _ =>
 M.pure (.tup [])) := by
 rw [C, u03 _ _ rfl]; kernel_rfl
theorem ue5 (a0 a1 a2 : PV) : C u2j [a0, a1, a2] =
 trunc (M.bind (bi .eql .none (strip a2) (.int .i64 0)) fun t8_0 =>
 M.bind (C u0h [(strip (strip a0)), (strip t8_0)]) fun t9_1 =>
 M.bind (nc P (strip a0)) fun t12_2 =>
 M.bind (fa 0 t12_2) fun t13_3 =>
 M.bind (ld none true t13_3) fun t14_4 =>
 M.bind (ap true 1 1 t14_4 (strip a1)) fun t16_5 =>
 M.bind (nc P (strip a0)) fun t17_6 =>
 M.bind (fa 0 t17_6) fun t18_7 =>
 M.bind (st 1 true t18_7 t16_5) fun _ =>
 M.pure (.tup [])) := by
 rw [C, u03 _ _ rfl]; kernel_rfl
theorem u9e (a0 : PV) : C u22 [a0] =
 trunc (M.bind (bx 4 a0) fun t1_0 =>
 M.bind (mf u3e [] [t1_0]) fun t4_1 =>
 M.bind (C u5l [(strip t4_1)]) fun t5_2 =>
 M.bind (ex 0 t5_2) fun t6_3 =>
 M.bind (ex 1 (tupDrop 0 t5_2)) fun t7_4 =>
 resT t6_3 (resT t7_4 (M.pure (.tup [t6_3, t7_4])))) := by
 rw [C, u03 _ _ rfl]; kernel_rfl
noncomputable def u3b (v0 v26 v27 v28 : PV) : M PV := atP P X u5b [1, 1, 1, 1, 1, 0] (mkEnv 78 0 [(0, v0), (26, v26), (27, v27), (28, v28)])
noncomputable def u2a (v0 v5 v26 v27 v28 : PV) : M PV := atP P X u5b [1, 1, 1, 1, 1, 0, 0, 1, 1, 0, 0, 1, 1, 1, 1] (mkEnv 78 0 [(0, v0), (5, v5), (26, v26), (27, v27), (28, v28)])
theorem u5z (v0 v26 v27 v28 : PV) : u3b v0 v26 v27 v28 =
 M.bind (bi .lss .none v28 v27) fun t29_0 =>
 condM t29_0
 (M.bind (iaS 3 v26 v28) fun t30_1 =>
 M.bind (ld (some 3) true t30_1) fun t31_2 =>
 M.bind (al [(.int .i64 0), (.int .u32 0), (.int .u32 0)]) fun t5_3 =>
 M.bind (st 3 true t5_3 t31_2) fun _ =>
 M.bind (fa 0 t5_3) fun t33_5 =>
 M.bind (ld none false t33_5) fun t34_6 =>
 M.bind (bi .geq .none t34_6 (.int .i64 0)) fun t35_7 =>
 M.bind (gd (strip t35_7) true (fa 0 t5_3)) fun t37_8 =>
 M.bind (gd (strip t35_7) true (ld none false t37_8)) fun t38_9 =>
 M.bind (gd (strip t35_7) true (bi .leq .none t38_9 (.int .i64 3))) fun t39_10 =>
 M.bind (pick (strip t35_7) t39_10 (.bool false)) fun t40_11 =>
 M.bind (gd (strip t40_11) true (fa 0 t5_3)) fun t42_12 =>
 M.bind (gd (strip t40_11) true (ld none false t42_12)) fun t43_13 =>
 M.bind (gd (strip t40_11) true (bi .lss .none t43_13 (.int .i64 2))) fun t44_14 =>
 M.bind (gd (strip t40_11) true (M.pure (strip t44_14))) fun t45_15 =>
 M.bind (gd t45_15 false (fa 1 t5_3)) fun t46_16 =>
 M.bind (gd t45_15 false (ld none false t46_16)) fun t47_17 =>
 M.bind (gd t45_15 false (bi .eql .none t47_17 (.int .u32 0))) fun t48_18 =>
 M.bind (gd (strip t40_11) true (pick t45_15 (.bool true) t48_18)) fun t49_19 =>
 M.bind (pick (strip t40_11) t49_19 (.bool false)) fun t50_20 =>
 M.bind (C u0h [(strip (strip v0)), (strip t50_20)]) fun t51_21 =>
 chk
 (M.bind (noPan (M.pure (strip v0))) fun t52_35 =>
 M.bind (noPan (M.pure (strip v0))) fun t53_36 =>
 M.bind (noPan (nc P t53_36)) fun t54_37 =>
 M.bind (noPan (fa 0 t54_37)) fun t55_38 =>
 M.bind (noPan (fa 0 t5_3)) fun t57_39 =>
 M.bind (noPan (ld none false t57_39)) fun t58_40 =>
 M.bind (noPan (cv (.int .u8) true t58_40)) fun t59_41 =>
 M.bind (noPan (bs true none [t59_41])) fun t60_42 =>
 M.bind (noPan (ld none true t55_38)) fun t56_43 =>
 M.bind (noPan (ap true 1 1 t56_43 t60_42)) fun t61_44 =>
 M.bind (noPan (nc P t52_35)) fun t62_45 =>
 M.bind (noPan (fa 0 t62_45)) fun t63_46 =>
 M.bind (noPan (st 1 true t63_46 t61_44)) fun _ =>
 M.pure [v0, PV.undef, PV.undef, PV.undef, PV.undef, t5_3, PV.undef, PV.undef, PV.undef, PV.undef, PV.undef, PV.undef, PV.undef, PV.undef, PV.undef, PV.undef, PV.undef, PV.undef, PV.undef, PV.undef, PV.undef, PV.undef, PV.undef, PV.undef, PV.undef, PV.undef, v26, v27, v28, t29_0, t30_1, (strip t31_2), (strip v0), t33_5, t34_6, t35_7, (strip t35_7), t37_8, t38_9, t39_10, t40_11, (strip t40_11), t42_12, t43_13, t44_14, t45_15, t46_16, t47_17, t48_18, t49_19, t50_20, t51_21, t52_35, t53_36, t54_37, t55_38, (strip t56_43), t57_39, t58_40, t59_41, t60_42, (strip t61_44), t62_45, t63_46, PV.undef, PV.undef, PV.undef, PV.undef, PV.undef, PV.undef, PV.undef, PV.undef, PV.undef, PV.undef, PV.undef, PV.undef, PV.undef, PV.undef])
 (M.bind (noPan (M.pure (strip v0))) fun t52_22 =>
 M.bind (noPan (M.pure (strip v0))) fun t53_23 =>
 M.bind (noPan (nc P t53_23)) fun t54_24 =>
 M.bind (noPan (fa 0 t54_24)) fun t55_25 =>
 M.bind (noPan (fa 0 t5_3)) fun t57_26 =>
 M.bind (noPan (ld none true t55_25)) fun t56_27 =>
 M.bind (noPan (ld none false t57_26)) fun t58_28 =>
 M.bind (noPan (cv (.int .u8) true t58_28)) fun t59_29 =>
 M.bind (noPan (bs true none [t59_29])) fun t60_30 =>
 M.bind (noPan (ap true 1 1 t56_27 t60_30)) fun t61_31 =>
 M.bind (noPan (nc P t52_22)) fun t62_32 =>
 M.bind (noPan (fa 0 t62_32)) fun t63_33 =>
 M.bind (noPan (st 1 true t63_33 t61_31)) fun _ =>
 M.pure [v0, PV.undef, PV.undef, PV.undef, PV.undef, t5_3, PV.undef, PV.undef, PV.undef, PV.undef, PV.undef, PV.undef, PV.undef, PV.undef, PV.undef, PV.undef, PV.undef, PV.undef, PV.undef, PV.undef, PV.undef, PV.undef, PV.undef, PV.undef, PV.undef, PV.undef, v26, v27, v28, t29_0, t30_1, (strip t31_2), (strip v0), t33_5, t34_6, t35_7, (strip t35_7), t37_8, t38_9, t39_10, t40_11, (strip t40_11), t42_12, t43_13, t44_14, t45_15, t46_16, t47_17, t48_18, t49_19, t50_20, t51_21, t52_22, t53_23, t54_24, t55_25, (strip t56_27), t57_26, t58_28, t59_29, t60_30, (strip t61_31), t62_32, t63_33, PV.undef, PV.undef, PV.undef, PV.undef, PV.undef, PV.undef, PV.undef, PV.undef, PV.undef, PV.undef, PV.undef, PV.undef, PV.undef, PV.undef]) <|
 M.bind (noPan (M.pure (strip v0))) fun t52_48 =>
 M.bind (noPan (M.pure (strip v0))) fun t53_49 =>
 M.bind (noPan (nc P t53_49)) fun t54_50 =>
 M.bind (noPan (fa 0 t54_50)) fun t55_51 =>
 M.bind (noPan (fa 0 t5_3)) fun t57_52 =>
 M.bind (noPan (ld none true t55_51)) fun t56_53 =>
 M.bind (noPan (ld none false t57_52)) fun t58_54 =>
 M.bind (noPan (cv (.int .u8) true t58_54)) fun t59_55 =>
 M.bind (noPan (bs true none [t59_55])) fun t60_56 =>
 M.bind (noPan (ap true 1 1 t56_53 t60_56)) fun t61_57 =>
 M.bind (noPan (nc P t52_48)) fun t62_58 =>
 M.bind (noPan (fa 0 t62_58)) fun t63_59 =>
 M.bind (noPan (st 1 true t63_59 t61_57)) fun _ =>
 M.bind (fa 0 t5_3) fun t64_61 =>
 M.bind (ld none false t64_61) fun t65_62 =>
 M.bind (bi .lss .none t65_62 (.int .i64 2)) fun t66_63 =>
 condM t66_63
 (M.bind (fa 1 t5_3) fun t68_64 =>
 M.bind (ld none false t68_64) fun t69_65 =>
 M.bind (cv (.int .u64) true t69_65) fun t70_66 =>
 M.bind (C u0n [(strip (strip v0)), (strip t70_66)]) fun t71_67 =>
 u2a v0 t5_3 v26 v27 v28)
 (u2a v0 t5_3 v26 v27 v28))
 (M.pure (.tup [])) :=
 (u0j P X _ _ _).trans (by kernel_rfl)
theorem u0t (v0 v5 v26 v27 v28 : PV) : u2a v0 v5 v26 v27 v28 =
 M.bind (fa 2 v5) fun t73_0 =>
 M.bind (ld none false t73_0) fun t74_1 =>
 M.bind (cv (.int .u64) true t74_1) fun t75_2 =>
 M.bind (C u0n [(strip (strip v0)), (strip t75_2)]) fun t76_3 =>
 M.bind (bi .add .none v28 (.int .i64 1)) fun t77_4 =>
 u3b v0 v26 v27 (strip t77_4) :=
 (u0j P X _ _ _).trans (by kernel_rfl)
theorem ue8 (a0 a1 : PV) : C u5b [a0, a1] =
 trunc (M.bind (bx 17 a1) fun t3_0 =>
 M.bind (fa 7 t3_0) fun t7_1 =>
 M.bind (ld (some 4) false t7_1) fun t8_2 =>
 M.bind (C u22 [(strip t8_2)]) fun t9_3 =>
 M.bind (ex 0 t9_3) fun t10_4 =>
 M.bind (ex 1 (tupDrop 0 t9_3)) fun t11_5 =>
 M.bind (C u2j [(strip (strip a0)), (strip t10_4), (strip t11_5)]) fun t12_6 =>
 M.bind (fa 16 t3_0) fun t14_7 =>
 M.bind (ld none false t14_7) fun t15_8 =>
 M.bind (lnL t15_8) fun t16_9 =>
 M.bind (bi .leq .none t16_9 (.int .i64 65536)) fun t17_10 =>
 M.bind (C u0h [(strip (strip a0)), (strip t17_10)]) fun t18_11 =>
 M.bind (fa 16 t3_0) fun t20_12 =>
 M.bind (ld none false t20_12) fun t21_13 =>
 M.bind (lnL t21_13) fun t22_14 =>
 M.bind (cv (.int .u64) true t22_14) fun t23_15 =>
 M.bind (C u0n [(strip (strip a0)), (strip t23_15)]) fun t24_16 =>
 M.bind (fa 16 t3_0) fun t25_17 =>
 M.bind (ld none false t25_17) fun t26_18 =>
 M.bind (lnL t26_18) fun t27_19 =>
 u3b a0 t26_18 t27_19 (.int .i64 0)) := by
 rw [C, u03 _ _ rfl]; kernel_rfl
noncomputable def u2p (v0 v56 v57 v58 : PV) : M PV := atP P X u33 [1, 1, 1, 1, 1, 0] (mkEnv 67 0 [(0, v0), (56, v56), (57, v57), (58, v58)])
noncomputable def u1w (v0 v4 v25 v26 v27 : PV) : M PV := atP P X u33 [1, 0, 1, 0, 1, 1, 0, 1, 0] (mkEnv 67 0 [(0, v0), (4, v4), (25, v25), (26, v26), (27, v27)])
theorem u5g (v0 v56 v57 v58 : PV) : u2p v0 v56 v57 v58 =
 M.bind (bi .lss .none v58 v57) fun t59_0 =>
 condM t59_0
 (M.bind (iaS 1 v56 v58) fun t60_1 =>
 M.bind (ld none true t60_1) fun t61_2 =>
 M.bind (cv (.int .u64) true (strip t61_2)) fun t64_3 =>
 M.bind (C u0n [(strip (strip v0)), (strip t64_3)]) fun t65_4 =>
 M.bind (bi .add .none v58 (.int .i64 1)) fun t66_5 =>
 u2p v0 v56 v57 (strip t66_5))
 (M.pure (.tup [])) :=
 (u0j P X _ _ _).trans (by kernel_rfl)
theorem u4j (v0 v4 v25 v26 v27 : PV) : u1w v0 v4 v25 v26 v27 =
 M.bind (bi .lss .none v27 v26) fun t28_0 =>
 condM t28_0
 (M.bind (iaS 3 v25 v27) fun t29_1 =>
 M.bind (ld (some 3) true t29_1) fun t30_2 =>
 M.bind (al [(.int .i64 0), (.bool false), (.int .i64 0)]) fun t7_3 =>
 M.bind (st 3 true t7_3 t30_2) fun _ =>
 M.bind (ld (some 3) false t7_3) fun t32_5 =>
 M.bind (C u3p [(strip t32_5)]) fun t33_6 =>
 M.bind (ex 0 t33_6) fun t34_7 =>
 M.bind (ex 1 (tupDrop 0 t33_6)) fun t35_8 =>
 M.bind (C u2j [(strip (strip v0)), (strip t34_7), (strip t35_8)]) fun t36_9 =>
 M.bind (bi .add .none v27 (.int .i64 1)) fun t37_10 =>
 u1w v0 v4 v25 v26 (strip t37_10))
 (M.pure (.tup [])) :=
 (u0j P X _ _ _).trans (by kernel_rfl)
theorem u7s (a0 a1 a2 : PV) : C u33 [a0, a1, a2] =
 trunc (M.bind (bx 17 a1) fun t4_0 =>
 M.bind (bi .eql .none (strip a2) (.int .i64 7)) fun t11_1 =>
 condM t11_1
 (M.bind (fa 15 t4_0) fun t13_2 =>
 M.bind (ld none false t13_2) fun t14_3 =>
 M.bind (lnL t14_3) fun t15_4 =>
 M.bind (bi .leq .none t15_4 (.int .i64 1000)) fun t16_5 =>
 M.bind (C u0h [(strip (strip a0)), (strip t16_5)]) fun t17_6 =>
 M.bind (fa 15 t4_0) fun t19_7 =>
 M.bind (ld none false t19_7) fun t20_8 =>
 M.bind (lnL t20_8) fun t21_9 =>
 M.bind (cv (.int .u64) true t21_9) fun t22_10 =>
 M.bind (C u0n [(strip (strip a0)), (strip t22_10)]) fun t23_11 =>
 M.bind (fa 15 t4_0) fun t24_12 =>
 M.bind (ld none false t24_12) fun t25_13 =>
 M.bind (lnL t25_13) fun t26_14 =>
 u1w a0 t4_0 t25_13 t26_14 (.int .i64 0))
 (M.bind (fa 14 t4_0) fun t39_15 =>
 M.bind (ld none false t39_15) fun t40_16 =>
 M.bind (lnL t40_16) fun t41_17 =>
 M.bind (bi .leq .none t41_17 (.int .i64 65536)) fun t42_18 =>
 M.bind (C u0h [(strip (strip a0)), (strip t42_18)]) fun t43_19 =>
 M.bind (fa 14 t4_0) fun t45_20 =>
 M.bind (ld none false t45_20) fun t46_21 =>
 M.bind (lnL t46_21) fun t47_22 =>
 M.bind (cv (.int .u64) true t47_22) fun t48_23 =>
 M.bind (C u0n [(strip (strip a0)), (strip t48_23)]) fun t49_24 =>
 nb (fa 14 t4_0) fun t50_25 =>
 nb (ld none false t50_25) fun t51_26 =>
 nb (ap true 1 4 (.slice false true 0 []) t51_26) fun t52_27 =>
 nb (fa 1 t4_0) fun t53_28 =>
 nb (ld none false t53_28) fun t54_29 =>
 nb (bs true none [t54_29]) fun t55_30 =>
 nb (ap true 1 4 t52_27 t55_30) fun t56_31 =>
 nb (lnL t56_31) fun t57_32 =>
 u2p a0 t56_31 t57_32 (.int .i64 0))) := by
 rw [C, u03 _ _ rfl]; kernel_rfl
noncomputable def u6b (v0 v3 : PV) : M PV := atP P X u6m [1, 1, 1] (mkEnv 32 0 [(0, v0), (3, v3)])
theorem u6r (v0 v3 : PV) : u6b v0 v3 =
 M.bind (fa 2 v3) fun t29_0 =>
 M.bind (ld none false t29_0) fun t30_1 =>
 M.bind (C u0n [(strip (strip v0)), (strip t30_1)]) fun t31_2 =>
 M.pure (.tup []) :=
 (u0j P X _ _ _).trans (by kernel_rfl)
theorem ue3 (a0 a1 : PV) : C u6m [a0, a1] =
 trunc (M.bind (bx 3 a1) fun t3_0 =>
 M.bind (fa 0 t3_0) fun t5_1 =>
 M.bind (ld none false t5_1) fun t6_2 =>
 M.bind (bi .lss .none t6_2 (.int .u32 64)) fun t7_3 =>
 M.bind (C u0h [(strip (strip a0)), (strip t7_3)]) fun t8_4 =>
 M.bind (fa 1 t3_0) fun t9_5 =>
 M.bind (ld none false t9_5) fun t10_6 =>
 M.bind (bi .eql .none t10_6 (.int .u32 0)) fun t11_7 =>
 condM t11_7
 (M.bind (fa 0 t3_0) fun t13_8 =>
 M.bind (ld none false t13_8) fun t14_9 =>
 M.bind (cv (.int .u64) true t14_9) fun t15_10 =>
 M.bind (C u0n [(strip (strip a0)), (strip t15_10)]) fun t16_11 =>
 u6b a0 t3_0)
 (M.bind (fa 0 t3_0) fun t18_12 =>
 M.bind (ld none false t18_12) fun t19_13 =>
 M.bind (cv (.int .u64) true t19_13) fun t20_14 =>
 M.bind (bi .add .none t20_14 (.int .u64 64)) fun t21_15 =>
 M.bind (C u0n [(strip (strip a0)), (strip t21_15)]) fun t22_16 =>
 M.bind (fa 1 t3_0) fun t24_17 =>
 M.bind (ld none false t24_17) fun t25_18 =>
 M.bind (cv (.int .u64) true t25_18) fun t26_19 =>
 M.bind (C u0n [(strip (strip a0)), (strip t26_19)]) fun t27_20 =>
 u6b a0 t3_0)) := by
 rw [C, u03 _ _ rfl]; kernel_rfl
noncomputable def u43 (v0 v14 v15 v16 : PV) : M PV := atP P X u3k [1, 1, 0] (mkEnv 33 0 [(0, v0), (14, v14), (15, v15), (16, v16)])
theorem u6k (v0 v14 v15 v16 : PV) : u43 v0 v14 v15 v16 =
 M.bind (bi .lss .none v16 v15) fun t17_0 =>
 condM t17_0
 (M.bind (iaS 3 v14 v16) fun t18_1 =>
 M.bind (ld (some 3) true t18_1) fun t19_2 =>
 M.bind (al [(.int .i64 0), (.bool false), (.int .i64 0)]) fun t7_3 =>
 M.bind (st 3 true t7_3 t19_2) fun _ =>
 M.bind (fa 0 t7_3) fun t21_5 =>
 M.bind (ld none false t21_5) fun t22_6 =>
 M.bind (bi .eql .none t22_6 (.int .i64 5)) fun t23_7 =>
 M.bind (C u0h [(strip (strip v0)), (strip t23_7)]) fun t24_8 =>
 M.bind (fa 2 t7_3) fun t26_9 =>
 M.bind (ld none false t26_9) fun t27_10 =>
 M.bind (C u36 [(strip t27_10)]) fun t28_11 =>
 M.bind (ex 0 t28_11) fun t29_12 =>
 M.bind (ex 1 (tupDrop 0 t28_11)) fun t30_13 =>
 M.bind (C u2j [(strip (strip v0)), (strip t29_12), (strip t30_13)]) fun t31_14 =>
 M.bind (bi .add .none v16 (.int .i64 1)) fun t32_15 =>
 u43 v0 v14 v15 (strip t32_15))
 (M.pure (.tup [])) :=
 (u0j P X _ _ _).trans (by kernel_rfl)
theorem ucz (a0 a1 a2 : PV) : C u3k [a0, a1, a2] =
 trunc (M.bind (lnL (strip a1)) fun t10_0 =>
 M.bind (bi .eql .none t10_0 (strip a2)) fun t12_1 =>
 M.bind (C u0h [(strip (strip a0)), (strip t12_1)]) fun t13_2 =>
 M.bind (lnL (strip a1)) fun t15_3 =>
 u43 a0 (strip a1) t15_3 (.int .i64 0)) := by
 rw [C, u03 _ _ rfl]; kernel_rfl
noncomputable def u0i (v0 v3 v4 v8 v9 v10 : PV) : M PV := atP P X u3v [1, 1, 0, 1, 0] (mkEnv 45 0 [(0, v0), (3, v3), (4, v4), (8, v8), (9, v9), (10, v10)])
noncomputable def u30 (v0 v3 v4 v8 v9 v10 : PV) : M PV := atP P X u3v [1, 1, 0, 1, 0, 0, 1, 1, 1] (mkEnv 45 0 [(0, v0), (3, v3), (4, v4), (8, v8), (9, v9), (10, v10)])
theorem u58 (v0 v3 v4 v8 v9 v10 : PV) : u0i v0 v3 v4 v8 v9 v10 =
 M.bind (bi .lss .none v10 v9) fun t11_0 =>
 condM t11_0
 (M.bind (iaS 3 v8 (strip v10)) fun t13_1 =>
 M.bind (ld (some 3) true t13_1) fun t14_2 =>
 M.bind (al [(.int .i64 0), (.bool false), (.int .i64 0)]) fun t6_3 =>
 M.bind (st 3 true t6_3 t14_2) fun _ =>
 M.bind (fa 1 t6_3) fun t15_5 =>
 M.bind (ld none false t15_5) fun t16_6 =>
 M.bind (gd (strip t16_6) true (M.pure (strip v10))) fun t18_7 =>
 M.bind (gd (strip t16_6) true (bi .lss .none t18_7 (.int .i64 2))) fun t19_8 =>
 M.bind (pick (strip t16_6) t19_8 (.bool false)) fun t20_9 =>
 condM t20_9
 (M.bind (bi .shl .none (.int .u8 1) (strip v10)) fun t23_10 =>
 M.bind (bi .or .none (strip v4) t23_10) fun t24_11 =>
 u30 v0 v3 t24_11 v8 v9 (strip v10))
 (u30 v0 v3 v4 v8 v9 (strip v10)))
 (M.bind (nc P (strip v0)) fun t28_12 =>
 M.bind (fa 0 t28_12) fun t29_13 =>
 M.bind (ld none true t29_13) fun t30_14 =>
 M.bind (bs true none [(strip v4)]) fun t32_15 =>
 M.bind (ap true 1 1 t30_14 t32_15) fun t33_16 =>
 M.bind (nc P (strip v0)) fun t34_17 =>
 M.bind (fa 0 t34_17) fun t35_18 =>
 M.bind (st 1 true t35_18 t33_16) fun _ =>
 M.bind (fa 1 v3) fun t37_20 =>
 M.bind (ld none false t37_20) fun t38_21 =>
 M.bind (cv (.int .u64) true t38_21) fun t39_22 =>
 M.bind (C u0n [(strip (strip v0)), (strip t39_22)]) fun t40_23 =>
 M.bind (fa 15 v3) fun t42_24 =>
 M.bind (ld none false t42_24) fun t43_25 =>
 M.bind (C u3k [(strip (strip v0)), (strip t43_25), (.int .i64 2)]) fun t44_26 =>
 M.pure (.tup [])) :=
 (u0j P X _ _ _).trans (by kernel_rfl)
theorem u1b (v0 v3 v4 v8 v9 v10 : PV) : u30 v0 v3 v4 v8 v9 v10 =
 M.bind (bi .add .none v10 (.int .i64 1)) fun t25_0 =>
 u0i v0 v3 v4 v8 v9 (strip t25_0) :=
 (u0j P X _ _ _).trans (by kernel_rfl)
theorem ub6 (a0 a1 : PV) : C u3v [a0, a1] =
 trunc (M.bind (bx 17 a1) fun t3_0 =>
 M.bind (fa 15 t3_0) fun t7_1 =>
 M.bind (ld none false t7_1) fun t8_2 =>
 M.bind (lnL t8_2) fun t9_3 =>
 u0i a0 t3_0 (.int .u8 0) t8_2 t9_3 (.int .i64 0)) := by
 rw [C, u03 _ _ rfl]; kernel_rfl
theorem u9t (a0 a1 a2 : PV) : C u5q [a0, a1, a2] =
 trunc (M.bind (bi .neq .none (strip a1) (.int .i64 9)) fun t8_0 =>
 M.bind (gd (strip t8_0) true (M.pure (strip a1))) fun t10_1 =>
 M.bind (gd (strip t8_0) true (bi .neq .none t10_1 (.int .i64 11))) fun t11_2 =>
 M.bind (pick (strip t8_0) t11_2 (.bool false)) fun t12_3 =>
 M.bind (gd (strip t12_3) false (M.pure (strip a2))) fun t14_4 =>
 M.bind (gd (strip t12_3) false (bi .lss .none t14_4 (.int .u64 4294967296))) fun t15_5 =>
 M.bind (pick (strip t12_3) (.bool true) t15_5) fun t16_6 =>
 M.bind (C u0h [(strip (strip a0)), (strip t16_6)]) fun t17_7 =>
 M.bind (bi .eql .none (strip a1) (.int .i64 9)) fun t20_8 =>
 condM t20_8
 (chk
 (M.bind (noPan (M.pure (strip a0))) fun t21_22 =>
 M.bind (noPan (M.pure (strip a0))) fun t22_23 =>
 M.bind (noPan (nc P t22_23)) fun t23_24 =>
 M.bind (noPan (fa 0 t23_24)) fun t24_25 =>
 M.bind (noPan (M.pure (strip a2))) fun t26_26 =>
 M.bind (noPan (cv (.int .i32) true t26_26)) fun t27_27 =>
 M.bind (noPan (cv (.int .i64) true t27_27)) fun t28_28 =>
 M.bind (noPan (C u28 [(strip t28_28)])) fun t29_29 =>
 M.bind (noPan (ld none true t24_25)) fun t25_30 =>
 M.bind (noPan (ap true 1 1 t25_30 t29_29)) fun t30_31 =>
 M.bind (noPan (nc P t21_22)) fun t31_32 =>
 M.bind (noPan (fa 0 t31_32)) fun t32_33 =>
 M.bind (noPan (st 1 true t32_33 t30_31)) fun _ =>
 M.pure [a0, a1, a2, PV.undef, PV.undef, PV.undef, (strip a0), (strip a1), t8_0, (strip t8_0), t10_1, t11_2, t12_3, (strip t12_3), t14_4, t15_5, t16_6, t17_7, (strip a1), t20_8, (strip t20_8), t21_22, t22_23, t23_24, t24_25, (strip t25_30), t26_26, t27_27, t28_28, t29_29, (strip t30_31), t31_32, t32_33, PV.undef, PV.undef, PV.undef, PV.undef, PV.undef, PV.undef, PV.undef, PV.undef, PV.undef, PV.undef, PV.undef, PV.undef, PV.undef, PV.undef, PV.undef, PV.undef, PV.undef, PV.undef, PV.undef, PV.undef, PV.undef, PV.undef, PV.undef, PV.undef, PV.undef, PV.undef, PV.undef, PV.undef, PV.undef, PV.undef, PV.undef, PV.undef, PV.undef, PV.undef, PV.undef, PV.undef, PV.undef, PV.undef])
 (M.bind (noPan (M.pure (strip a0))) fun t21_9 =>
 M.bind (noPan (M.pure (strip a0))) fun t22_10 =>
 M.bind (noPan (nc P t22_10)) fun t23_11 =>
 M.bind (noPan (fa 0 t23_11)) fun t24_12 =>
 M.bind (noPan (M.pure (strip a2))) fun t26_13 =>
 M.bind (noPan (cv (.int .i32) true t26_13)) fun t27_14 =>
 M.bind (noPan (cv (.int .i64) true t27_14)) fun t28_15 =>
 M.bind (noPan (ld none true t24_12)) fun t25_16 =>
 M.bind (noPan (C u28 [(strip t28_15)])) fun t29_17 =>
 M.bind (noPan (ap true 1 1 t25_16 t29_17)) fun t30_18 =>
 M.bind (noPan (nc P t21_9)) fun t31_19 =>
 M.bind (noPan (fa 0 t31_19)) fun t32_20 =>
 M.bind (noPan (st 1 true t32_20 t30_18)) fun _ =>
 M.pure [a0, a1, a2, PV.undef, PV.undef, PV.undef, (strip a0), (strip a1), t8_0, (strip t8_0), t10_1, t11_2, t12_3, (strip t12_3), t14_4, t15_5, t16_6, t17_7, (strip a1), t20_8, (strip t20_8), t21_9, t22_10, t23_11, t24_12, (strip t25_16), t26_13, t27_14, t28_15, t29_17, (strip t30_18), t31_19, t32_20, PV.undef, PV.undef, PV.undef, PV.undef, PV.undef, PV.undef, PV.undef, PV.undef, PV.undef, PV.undef, PV.undef, PV.undef, PV.undef, PV.undef, PV.undef, PV.undef, PV.undef, PV.undef, PV.undef, PV.undef, PV.undef, PV.undef, PV.undef, PV.undef, PV.undef, PV.undef, PV.undef, PV.undef, PV.undef, PV.undef, PV.undef, PV.undef, PV.undef, PV.undef, PV.undef, PV.undef, PV.undef, PV.undef]) <|
 M.bind (noPan (M.pure (strip a0))) fun t21_35 =>
 M.bind (noPan (M.pure (strip a0))) fun t22_36 =>
 M.bind (noPan (nc P t22_36)) fun t23_37 =>
 M.bind (noPan (fa 0 t23_37)) fun t24_38 =>
 M.bind (noPan (M.pure (strip a2))) fun t26_39 =>
 M.bind (noPan (cv (.int .i32) true t26_39)) fun t27_40 =>
 M.bind (noPan (cv (.int .i64) true t27_40)) fun t28_41 =>
 M.bind (noPan (ld none true t24_38)) fun t25_42 =>
 M.bind (noPan (C u28 [(strip t28_41)])) fun t29_43 =>
 M.bind (noPan (ap true 1 1 t25_42 t29_43)) fun t30_44 =>
 M.bind (noPan (nc P t21_35)) fun t31_45 =>
 M.bind (noPan (fa 0 t31_45)) fun t32_46 =>
 M.bind (noPan (st 1 true t32_46 t30_44)) fun _ =>
 M.pure (.tup []))
 (M.bind (bi .eql .none (strip a1) (.int .i64 10)) fun t34_48 =>
 condM t34_48
 (chk
 (M.bind (noPan (M.pure (strip a0))) fun t35_61 =>
 M.bind (noPan (M.pure (strip a0))) fun t36_62 =>
 M.bind (noPan (nc P t36_62)) fun t37_63 =>
 M.bind (noPan (fa 0 t37_63)) fun t38_64 =>
 M.bind (noPan (M.pure (strip a2))) fun t40_65 =>
 M.bind (noPan (cv (.int .i64) true t40_65)) fun t41_66 =>
 M.bind (noPan (C u28 [(strip t41_66)])) fun t42_67 =>
 M.bind (noPan (ld none true t38_64)) fun t39_68 =>
 M.bind (noPan (ap true 1 1 t39_68 t42_67)) fun t43_69 =>
 M.bind (noPan (nc P t35_61)) fun t44_70 =>
 M.bind (noPan (fa 0 t44_70)) fun t45_71 =>
 M.bind (noPan (st 1 true t45_71 t43_69)) fun _ =>
 M.pure [a0, a1, a2, PV.undef, PV.undef, PV.undef, (strip a0), (strip a1), t8_0, (strip t8_0), t10_1, t11_2, t12_3, (strip t12_3), t14_4, t15_5, t16_6, t17_7, (strip a1), t20_8, (strip t20_8), PV.undef, PV.undef, PV.undef, PV.undef, PV.undef, PV.undef, PV.undef, PV.undef, PV.undef, PV.undef, PV.undef, PV.undef, t34_48, (strip t34_48), t35_61, t36_62, t37_63, t38_64, (strip t39_68), t40_65, t41_66, t42_67, (strip t43_69), t44_70, t45_71, PV.undef, PV.undef, PV.undef, PV.undef, PV.undef, PV.undef, PV.undef, PV.undef, PV.undef, PV.undef, PV.undef, PV.undef, PV.undef, PV.undef, PV.undef, PV.undef, PV.undef, PV.undef, PV.undef, PV.undef, PV.undef, PV.undef, PV.undef, PV.undef, PV.undef])
 (M.bind (noPan (M.pure (strip a0))) fun t35_49 =>
 M.bind (noPan (M.pure (strip a0))) fun t36_50 =>
 M.bind (noPan (nc P t36_50)) fun t37_51 =>
 M.bind (noPan (fa 0 t37_51)) fun t38_52 =>
 M.bind (noPan (M.pure (strip a2))) fun t40_53 =>
 M.bind (noPan (cv (.int .i64) true t40_53)) fun t41_54 =>
 M.bind (noPan (ld none true t38_52)) fun t39_55 =>
 M.bind (noPan (C u28 [(strip t41_54)])) fun t42_56 =>
 M.bind (noPan (ap true 1 1 t39_55 t42_56)) fun t43_57 =>
 M.bind (noPan (nc P t35_49)) fun t44_58 =>
 M.bind (noPan (fa 0 t44_58)) fun t45_59 =>
 M.bind (noPan (st 1 true t45_59 t43_57)) fun _ =>
 M.pure [a0, a1, a2, PV.undef, PV.undef, PV.undef, (strip a0), (strip a1), t8_0, (strip t8_0), t10_1, t11_2, t12_3, (strip t12_3), t14_4, t15_5, t16_6, t17_7, (strip a1), t20_8, (strip t20_8), PV.undef, PV.undef, PV.undef, PV.undef, PV.undef, PV.undef, PV.undef, PV.undef, PV.undef, PV.undef, PV.undef, PV.undef, t34_48, (strip t34_48), t35_49, t36_50, t37_51, t38_52, (strip t39_55), t40_53, t41_54, t42_56, (strip t43_57), t44_58, t45_59, PV.undef, PV.undef, PV.undef, PV.undef, PV.undef, PV.undef, PV.undef, PV.undef, PV.undef, PV.undef, PV.undef, PV.undef, PV.undef, PV.undef, PV.undef, PV.undef, PV.undef, PV.undef, PV.undef, PV.undef, PV.undef, PV.undef, PV.undef, PV.undef, PV.undef]) <|
 M.bind (noPan (M.pure (strip a0))) fun t35_73 =>
 M.bind (noPan (M.pure (strip a0))) fun t36_74 =>
 M.bind (noPan (nc P t36_74)) fun t37_75 =>
 M.bind (noPan (fa 0 t37_75)) fun t38_76 =>
 M.bind (noPan (M.pure (strip a2))) fun t40_77 =>
 M.bind (noPan (cv (.int .i64) true t40_77)) fun t41_78 =>
 M.bind (noPan (ld none true t38_76)) fun t39_79 =>
 M.bind (noPan (C u28 [(strip t41_78)])) fun t42_80 =>
 M.bind (noPan (ap true 1 1 t39_79 t42_80)) fun t43_81 =>
 M.bind (noPan (nc P t35_73)) fun t44_82 =>
 M.bind (noPan (fa 0 t44_82)) fun t45_83 =>
 M.bind (noPan (st 1 true t45_83 t43_81)) fun _ =>
 M.pure (.tup []))
 (M.bind (bi .eql .none (strip a1) (.int .i64 11)) fun t47_85 =>
 condM t47_85
 (chk
 (M.bind (noPan (M.pure (strip a0))) fun t48_98 =>
 M.bind (noPan (M.pure (strip a0))) fun t49_99 =>
 M.bind (noPan (nc P t49_99)) fun t50_100 =>
 M.bind (noPan (fa 0 t50_100)) fun t51_101 =>
 M.bind (noPan (M.pure (strip a2))) fun t53_102 =>
 M.bind (noPan (cv (.int .u32) true t53_102)) fun t54_103 =>
 M.bind (noPan (C u70 [(strip t54_103)])) fun t55_104 =>
 M.bind (noPan (ld none true t51_101)) fun t52_105 =>
 M.bind (noPan (ap true 1 1 t52_105 t55_104)) fun t56_106 =>
 M.bind (noPan (nc P t48_98)) fun t57_107 =>
 M.bind (noPan (fa 0 t57_107)) fun t58_108 =>
 M.bind (noPan (st 1 true t58_108 t56_106)) fun _ =>
 M.pure [a0, a1, a2, PV.undef, PV.undef, PV.undef, (strip a0), (strip a1), t8_0, (strip t8_0), t10_1, t11_2, t12_3, (strip t12_3), t14_4, t15_5, t16_6, t17_7, (strip a1), t20_8, (strip t20_8), PV.undef, PV.undef, PV.undef, PV.undef, PV.undef, PV.undef, PV.undef, PV.undef, PV.undef, PV.undef, PV.undef, PV.undef, t34_48, (strip t34_48), PV.undef, PV.undef, PV.undef, PV.undef, PV.undef, PV.undef, PV.undef, PV.undef, PV.undef, PV.undef, PV.undef, t47_85, (strip t47_85), t48_98, t49_99, t50_100, t51_101, (strip t52_105), t53_102, t54_103, t55_104, (strip t56_106), t57_107, t58_108, PV.undef, PV.undef, PV.undef, PV.undef, PV.undef, PV.undef, PV.undef, PV.undef, PV.undef, PV.undef, PV.undef, PV.undef])
 (M.bind (noPan (M.pure (strip a0))) fun t48_86 =>
 M.bind (noPan (M.pure (strip a0))) fun t49_87 =>
 M.bind (noPan (nc P t49_87)) fun t50_88 =>
 M.bind (noPan (fa 0 t50_88)) fun t51_89 =>
 M.bind (noPan (M.pure (strip a2))) fun t53_90 =>
 M.bind (noPan (cv (.int .u32) true t53_90)) fun t54_91 =>
 M.bind (noPan (ld none true t51_89)) fun t52_92 =>
 M.bind (noPan (C u70 [(strip t54_91)])) fun t55_93 =>
 M.bind (noPan (ap true 1 1 t52_92 t55_93)) fun t56_94 =>
 M.bind (noPan (nc P t48_86)) fun t57_95 =>
 M.bind (noPan (fa 0 t57_95)) fun t58_96 =>
 M.bind (noPan (st 1 true t58_96 t56_94)) fun _ =>
 M.pure [a0, a1, a2, PV.undef, PV.undef, PV.undef, (strip a0), (strip a1), t8_0, (strip t8_0), t10_1, t11_2, t12_3, (strip t12_3), t14_4, t15_5, t16_6, t17_7, (strip a1), t20_8, (strip t20_8), PV.undef, PV.undef, PV.undef, PV.undef, PV.undef, PV.undef, PV.undef, PV.undef, PV.undef, PV.undef, PV.undef, PV.undef, t34_48, (strip t34_48), PV.undef, PV.undef, PV.undef, PV.undef, PV.undef, PV.undef, PV.undef, PV.undef, PV.undef, PV.undef, PV.undef, t47_85, (strip t47_85), t48_86, t49_87, t50_88, t51_89, (strip t52_92), t53_90, t54_91, t55_93, (strip t56_94), t57_95, t58_96, PV.undef, PV.undef, PV.undef, PV.undef, PV.undef, PV.undef, PV.undef, PV.undef, PV.undef, PV.undef, PV.undef, PV.undef]) <|
 M.bind (noPan (M.pure (strip a0))) fun t48_110 =>
 M.bind (noPan (M.pure (strip a0))) fun t49_111 =>
 M.bind (noPan (nc P t49_111)) fun t50_112 =>
 M.bind (noPan (fa 0 t50_112)) fun t51_113 =>
 M.bind (noPan (M.pure (strip a2))) fun t53_114 =>
 M.bind (noPan (cv (.int .u32) true t53_114)) fun t54_115 =>
 M.bind (noPan (ld none true t51_113)) fun t52_116 =>
 M.bind (noPan (C u70 [(strip t54_115)])) fun t55_117 =>
 M.bind (noPan (ap true 1 1 t52_116 t55_117)) fun t56_118 =>
 M.bind (noPan (nc P t48_110)) fun t57_119 =>
 M.bind (noPan (fa 0 t57_119)) fun t58_120 =>
 M.bind (noPan (st 1 true t58_120 t56_118)) fun _ =>
 M.pure (.tup []))
 (M.bind (bi .eql .none (strip a1) (.int .i64 12)) fun t60_122 =>
 condM t60_122
 (chk
 (M.bind (noPan (M.pure (strip a0))) fun t61_134 =>
 M.bind (noPan (M.pure (strip a0))) fun t62_135 =>
 M.bind (noPan (nc P t62_135)) fun t63_136 =>
 M.bind (noPan (fa 0 t63_136)) fun t64_137 =>
 M.bind (noPan (M.pure (strip a2))) fun t66_138 =>
 M.bind (noPan (C u72 [(strip t66_138)])) fun t67_139 =>
 M.bind (noPan (ld none true t64_137)) fun t65_140 =>
 M.bind (noPan (ap true 1 1 t65_140 t67_139)) fun t68_141 =>
 M.bind (noPan (nc P t61_134)) fun t69_142 =>
 M.bind (noPan (fa 0 t69_142)) fun t70_143 =>
 M.bind (noPan (st 1 true t70_143 t68_141)) fun _ =>
 M.pure [a0, a1, a2, PV.undef, PV.undef, PV.undef, (strip a0), (strip a1), t8_0, (strip t8_0), t10_1, t11_2, t12_3, (strip t12_3), t14_4, t15_5, t16_6, t17_7, (strip a1), t20_8, (strip t20_8), PV.undef, PV.undef, PV.undef, PV.undef, PV.undef, PV.undef, PV.undef, PV.undef, PV.undef, PV.undef, PV.undef, PV.undef, t34_48, (strip t34_48), PV.undef, PV.undef, PV.undef, PV.undef, PV.undef, PV.undef, PV.undef, PV.undef, PV.undef, PV.undef, PV.undef, t47_85, (strip t47_85), PV.undef, PV.undef, PV.undef, PV.undef, PV.undef, PV.undef, PV.undef, PV.undef, PV.undef, PV.undef, PV.undef, t60_122, (strip t60_122), t61_134, t62_135, t63_136, t64_137, (strip t65_140), t66_138, t67_139, (strip t68_141), t69_142, t70_143])
 (M.bind (noPan (M.pure (strip a0))) fun t61_123 =>
 M.bind (noPan (M.pure (strip a0))) fun t62_124 =>
 M.bind (noPan (nc P t62_124)) fun t63_125 =>
 M.bind (noPan (fa 0 t63_125)) fun t64_126 =>
 M.bind (noPan (M.pure (strip a2))) fun t66_127 =>
 M.bind (noPan (ld none true t64_126)) fun t65_128 =>
 M.bind (noPan (C u72 [(strip t66_127)])) fun t67_129 =>
 M.bind (noPan (ap true 1 1 t65_128 t67_129)) fun t68_130 =>
 M.bind (noPan (nc P t61_123)) fun t69_131 =>
 M.bind (noPan (fa 0 t69_131)) fun t70_132 =>
 M.bind (noPan (st 1 true t70_132 t68_130)) fun _ =>
 M.pure [a0, a1, a2, PV.undef, PV.undef, PV.undef, (strip a0), (strip a1), t8_0, (strip t8_0), t10_1, t11_2, t12_3, (strip t12_3), t14_4, t15_5, t16_6, t17_7, (strip a1), t20_8, (strip t20_8), PV.undef, PV.undef, PV.undef, PV.undef, PV.undef, PV.undef, PV.undef, PV.undef, PV.undef, PV.undef, PV.undef, PV.undef, t34_48, (strip t34_48), PV.undef, PV.undef, PV.undef, PV.undef, PV.undef, PV.undef, PV.undef, PV.undef, PV.undef, PV.undef, PV.undef, t47_85, (strip t47_85), PV.undef, PV.undef, PV.undef, PV.undef, PV.undef, PV.undef, PV.undef, PV.undef, PV.undef, PV.undef, PV.undef, t60_122, (strip t60_122), t61_123, t62_124, t63_125, t64_126, (strip t65_128), t66_127, t67_129, (strip t68_130), t69_131, t70_132]) <|
 M.bind (noPan (M.pure (strip a0))) fun t61_145 =>
 M.bind (noPan (M.pure (strip a0))) fun t62_146 =>
 M.bind (noPan (nc P t62_146)) fun t63_147 =>
 M.bind (noPan (fa 0 t63_147)) fun t64_148 =>
 M.bind (noPan (M.pure (strip a2))) fun t66_149 =>
 M.bind (noPan (ld none true t64_148)) fun t65_150 =>
 M.bind (noPan (C u72 [(strip t66_149)])) fun t67_151 =>
 M.bind (noPan (ap true 1 1 t65_150 t67_151)) fun t68_152 =>
 M.bind (noPan (nc P t61_145)) fun t69_153 =>
 M.bind (noPan (fa 0 t69_153)) fun t70_154 =>
 M.bind (noPan (st 1 true t70_154 t68_152)) fun _ =>
 M.pure (.tup []))
 (M.pure (.tup [])))))) := by
 rw [C, u03 _ _ rfl]; kernel_rfl
noncomputable def u2m (v0 v1 v4 v12 v13 : PV) : M PV := atP P X u3s [1, 1, 0, 1, 0] (mkEnv 27 0 [(0, v0), (1, v1), (4, v4), (12, v12), (13, v13)])
theorem u7j (v0 v1 v4 v12 v13 : PV) : u2m v0 v1 v4 v12 v13 =
 M.bind (bi .lss .none v13 v12) fun t14_0 =>
 condM t14_0
 (M.bind (noPan (M.pure (strip v0))) fun t16_11 =>
 M.bind (noPan (M.pure (strip v13))) fun t17_12 =>
 M.bind (noPan (iaS 17 t16_11 t17_12)) fun t18_13 =>
 M.bind (noPan (M.pure (strip v1))) fun t20_14 =>
 M.bind (noPan (M.pure (strip v13))) fun t21_15 =>
 M.bind (noPan (iaS 17 t20_14 t21_15)) fun t22_16 =>
 M.bind (noPan (ld (some 17) false t18_13)) fun t19_17 =>
 M.bind (noPan (ld (some 17) false t22_16)) fun t23_18 =>
 M.bind (noPan (C u0l [(strip t19_17), (strip t23_18)])) fun t24_19 =>
 M.bind (noPan (un .not t24_19)) fun t25_20 =>
 condM t25_20
 (M.pure (.bool false))
 (M.bind (bi .add .none (strip v13) (.int .i64 1)) fun t26_21 =>
 u2m v0 v1 v4 v12 (strip t26_21)))
 (M.pure (.bool true)) :=
 (u0j P X _ _ _).trans (by kernel_rfl)
theorem ubg (a0 a1 : PV) : C u3s [a0, a1] =
 trunc (M.bind (lnL (strip a0)) fun t7_0 =>
 M.bind (lnL (strip a1)) fun t9_1 =>
 M.bind (bi .neq .none t7_0 t9_1) fun t10_2 =>
 condM t10_2
 (M.pure (.bool false))
 (M.bind (lnL (strip a0)) fun t12_3 =>
 u2m a0 a1 (.bool false) t12_3 (.int .i64 0))) := by
 rw [C, u03 _ _ rfl]; kernel_rfl
noncomputable def u13 (v0 v1 v4 v12 v13 : PV) : M PV := atP P X u3f [1, 1, 0, 1, 0] (mkEnv 26 0 [(0, v0), (1, v1), (4, v4), (12, v12), (13, v13)])
theorem u46 (v0 v1 v4 v12 v13 : PV) : u13 v0 v1 v4 v12 v13 =
 M.bind (bi .lss .none v13 v12) fun t14_0 =>
 condM t14_0
 (nb (iaS 3 (strip v0) (strip v13)) fun t18_1 =>
 nb (ld (some 3) false t18_1) fun t19_2 =>
 nb (iaS 3 (strip v1) (strip v13)) fun t22_3 =>
 nb (ld (some 3) false t22_3) fun t23_4 =>
 nb (bi .neq (.struct [.int, .int, .int]) t19_2 t23_4) fun t24_5 =>
 condM t24_5
 (M.pure (.bool false))
 (M.bind (bi .add .none (strip v13) (.int .i64 1)) fun t25_6 =>
 u13 v0 v1 v4 v12 (strip t25_6)))
 (M.pure (.bool true)) :=
 (u0j P X _ _ _).trans (by kernel_rfl)
theorem u8s (a0 a1 : PV) : C u3f [a0, a1] =
 trunc (M.bind (lnL (strip a0)) fun t7_0 =>
 M.bind (lnL (strip a1)) fun t9_1 =>
 M.bind (bi .neq .none t7_0 t9_1) fun t10_2 =>
 condM t10_2
 (M.pure (.bool false))
 (M.bind (lnL (strip a0)) fun t12_3 =>
 u13 a0 a1 (.bool false) t12_3 (.int .i64 0))) := by
 rw [C, u03 _ _ rfl]; kernel_rfl
theorem ujr (a0 a1 : PV) : C u7u [a0, a1] =
 trunc (M.bind (bx 3 a0) fun t2_0 =>
 M.bind (bx 3 a1) fun t3_1 =>
 M.bind (fa 0 t2_0) fun t5_2 =>
 M.bind (ld none false t5_2) fun t6_3 =>
 M.bind (bi .neq .none t6_3 (.int .i64 5)) fun t7_4 =>
 M.bind (gd (strip t7_4) false (fa 0 t3_1)) fun t9_5 =>
 M.bind (gd (strip t7_4) false (ld none false t9_5)) fun t10_6 =>
 M.bind (gd (strip t7_4) false (bi .neq .none t10_6 (.int .i64 5))) fun t11_7 =>
 M.bind (pick (strip t7_4) (.bool true) t11_7) fun t12_8 =>
 condM t12_8
 (M.bind (fa 0 t2_0) fun t13_9 =>
 M.bind (ld none false t13_9) fun t14_10 =>
 M.bind (fa 0 t3_1) fun t15_11 =>
 M.bind (ld none false t15_11) fun t16_12 =>
 M.bind (bi .eql .none t14_10 t16_12) fun t17_13 =>
 resT t17_13 (M.pure t17_13))
 (M.bind (ld (some 3) false t2_0) fun t18_14 =>
 M.bind (ld (some 3) false t3_1) fun t19_15 =>
 M.bind (bi .eql (.struct [.int, .bool, .int]) t18_14 t19_15) fun t20_16 =>
 resT t20_16 (M.pure t20_16))) := by
 rw [C, u03 _ _ rfl]; kernel_rfl
noncomputable def u1k (v0 v1 v4 v12 v13 : PV) : M PV := atP P X u4p [1, 1, 0, 1, 0] (mkEnv 26 0 [(0, v0), (1, v1), (4, v4), (12, v12), (13, v13)])
theorem u4z (v0 v1 v4 v12 v13 : PV) : u1k v0 v1 v4 v12 v13 =
 M.bind (bi .lss .none v13 v12) fun t14_0 =>
 condM t14_0
 (nb (iaS 1 (strip v0) (strip v13)) fun t18_1 =>
 nb (ld none false t18_1) fun t19_2 =>
 nb (iaS 1 (strip v1) (strip v13)) fun t22_3 =>
 nb (ld none false t22_3) fun t23_4 =>
 nb (bi .neq .none t19_2 t23_4) fun t24_5 =>
 condM t24_5
 (M.pure (.bool false))
 (M.bind (bi .add .none (strip v13) (.int .i64 1)) fun t25_6 =>
 u1k v0 v1 v4 v12 (strip t25_6)))
 (M.pure (.bool true)) :=
 (u0j P X _ _ _).trans (by kernel_rfl)
theorem ua9 (a0 a1 : PV) : C u4p [a0, a1] =
 trunc (M.bind (lnL (strip a0)) fun t7_0 =>
 M.bind (lnL (strip a1)) fun t9_1 =>
 M.bind (bi .neq .none t7_0 t9_1) fun t10_2 =>
 condM t10_2
 (M.pure (.bool false))
 (M.bind (lnL (strip a0)) fun t12_3 =>
 u1k a0 a1 (.bool false) t12_3 (.int .i64 0))) := by
 rw [C, u03 _ _ rfl]; kernel_rfl
noncomputable def u20 (v0 v1 v4 v12 v13 : PV) : M PV := atP P X u4e [1, 1, 0, 1, 0] (mkEnv 27 0 [(0, v0), (1, v1), (4, v4), (12, v12), (13, v13)])
theorem u5o (v0 v1 v4 v12 v13 : PV) : u20 v0 v1 v4 v12 v13 =
 M.bind (bi .lss .none v13 v12) fun t14_0 =>
 condM t14_0
 (M.bind (noPan (M.pure (strip v0))) fun t16_11 =>
 M.bind (noPan (M.pure (strip v13))) fun t17_12 =>
 M.bind (noPan (iaS 3 t16_11 t17_12)) fun t18_13 =>
 M.bind (noPan (M.pure (strip v1))) fun t20_14 =>
 M.bind (noPan (M.pure (strip v13))) fun t21_15 =>
 M.bind (noPan (iaS 3 t20_14 t21_15)) fun t22_16 =>
 M.bind (noPan (ld (some 3) false t18_13)) fun t19_17 =>
 M.bind (noPan (ld (some 3) false t22_16)) fun t23_18 =>
 M.bind (noPan (C u7u [(strip t19_17), (strip t23_18)])) fun t24_19 =>
 M.bind (noPan (un .not t24_19)) fun t25_20 =>
 condM t25_20
 (M.pure (.bool false))
 (M.bind (bi .add .none (strip v13) (.int .i64 1)) fun t26_21 =>
 u20 v0 v1 v4 v12 (strip t26_21)))
 (M.pure (.bool true)) :=
 (u0j P X _ _ _).trans (by kernel_rfl)
theorem ubw (a0 a1 : PV) : C u4e [a0, a1] =
 trunc (M.bind (lnL (strip a0)) fun t7_0 =>
 M.bind (lnL (strip a1)) fun t9_1 =>
 M.bind (bi .neq .none t7_0 t9_1) fun t10_2 =>
 condM t10_2
 (M.pure (.bool false))
 (M.bind (lnL (strip a0)) fun t12_3 =>
 u20 a0 a1 (.bool false) t12_3 (.int .i64 0))) := by
 rw [C, u03 _ _ rfl]; kernel_rfl
theorem u56 (a0 : PV) : C u11 [a0] =
 trunc (M.pure (.tup [])) := by
 rw [C, u03 _ _ rfl]; kernel_rfl
theorem u9d (a0 : PV) : C u21 [a0] =
 trunc (M.bind (C u4v [(strip (strip a0)), (.fn u4i [] [])]) fun t4_0 =>
 M.bind (nc P (strip a0)) fun t5_1 =>
 M.bind (fa 2 t5_1) fun t6_2 =>
 M.bind (fa 7 t6_2) fun t7_3 =>
 M.bind (st 4 true t7_3 t4_0) fun _ =>
 M.pure (.tup [])) := by
 rw [C, u03 _ _ rfl]; kernel_rfl
noncomputable def u27 (v0 v6 v7 : PV) : M PV := atP P X u1z [1, 1, 0] (mkEnv 40 0 [(0, v0), (6, v6), (7, v7)])
noncomputable def u2x (v0 v2 v6 v7 : PV) : M PV := atP P X u1z [1, 1, 0, 0, 1, 1, 0, 0, 1, 1] (mkEnv 40 0 [(0, v0), (2, v2), (6, v6), (7, v7)])
theorem u5x (v0 v6 v7 : PV) : u27 v0 v6 v7 =
 M.bind (bi .lss .none v7 v6) fun t8_0 =>
 condM t8_0
 (M.bind (C u1f [(strip (strip v0)), (.int .u8 3)]) fun t10_1 =>
 M.bind (cv (.int .i64) true t10_1) fun t11_2 =>
 M.bind (bd [(.int .i64 0), (.int .u32 0), (.int .u32 0)] [(0, 1, t11_2)]) fun t12_3 =>
 M.bind (al [(.int .i64 0), (.int .u32 0), (.int .u32 0)]) fun t2_4 =>
 M.bind (st 3 true t2_4 t12_3) fun _ =>
 M.bind (fa 0 t2_4) fun t13_6 =>
 M.bind (ld none false t13_6) fun t14_7 =>
 M.bind (bi .lss .none t14_7 (.int .i64 2)) fun t15_8 =>
 condM t15_8
 (M.bind (C u0k [(strip (strip v0))]) fun t17_9 =>
 M.bind (fa 1 t2_4) fun t18_10 =>
 M.bind (st 1 true t18_10 t17_9) fun _ =>
 u2x v0 t2_4 v6 v7)
 (u2x v0 t2_4 v6 v7))
 (M.pure (.tup [])) :=
 (u0j P X _ _ _).trans (by kernel_rfl)
theorem u15 (v0 v2 v6 v7 : PV) : u2x v0 v2 v6 v7 =
 M.bind (C u0k [(strip (strip v0))]) fun t20_0 =>
 M.bind (fa 2 v2) fun t21_1 =>
 M.bind (st 1 true t21_1 t20_0) fun _ =>
 M.bind (nc P (strip v0)) fun t23_3 =>
 M.bind (fa 20 t23_3) fun t24_4 =>
 M.bind (ld none false t24_4) fun t25_5 =>
 M.bind (bi .neq .none t25_5 (.int .i64 0)) fun t26_6 =>
 condM t26_6
 (M.pure (.tup []))
 (chk
 (M.bind (noPan (M.pure (strip v0))) fun t27_20 =>
 M.bind (noPan (M.pure (strip v0))) fun t28_21 =>
 M.bind (noPan (nc P t28_21)) fun t29_22 =>
 M.bind (noPan (fa 2 t29_22)) fun t30_23 =>
 M.bind (noPan (fa 16 t30_23)) fun t31_24 =>
 M.bind (noPan (ld (some 3) false v2)) fun t33_25 =>
 M.bind (noPan (bs true (some 3) [t33_25])) fun t34_26 =>
 M.bind (noPan (ld none true t31_24)) fun t32_27 =>
 M.bind (noPan (ap true 3 16 t32_27 t34_26)) fun t35_28 =>
 M.bind (noPan (nc P t27_20)) fun t36_29 =>
 M.bind (noPan (fa 2 t36_29)) fun t37_30 =>
 M.bind (noPan (fa 16 t37_30)) fun t38_31 =>
 M.bind (noPan (st 1 true t38_31 t35_28)) fun _ =>
 M.pure [v0, .undef, v2, .undef, .undef, .undef, v6, v7, .undef, .undef, .undef, .undef, .undef, .undef, .undef, .undef, .undef, .undef, .undef, (strip v0), (strip t20_0), t21_1, (strip v0), t23_3, t24_4, t25_5, t26_6, t27_20, t28_21, t29_22, t30_23, t31_24, (strip t32_27), t33_25, t34_26, (strip t35_28), t36_29, t37_30, t38_31, .undef])
 (M.bind (noPan (M.pure (strip v0))) fun t27_7 =>
 M.bind (noPan (M.pure (strip v0))) fun t28_8 =>
 M.bind (noPan (nc P t28_8)) fun t29_9 =>
 M.bind (noPan (fa 2 t29_9)) fun t30_10 =>
 M.bind (noPan (fa 16 t30_10)) fun t31_11 =>
 M.bind (noPan (ld none true t31_11)) fun t32_12 =>
 M.bind (noPan (ld (some 3) false v2)) fun t33_13 =>
 M.bind (noPan (bs true (some 3) [t33_13])) fun t34_14 =>
 M.bind (noPan (ap true 3 16 t32_12 t34_14)) fun t35_15 =>
 M.bind (noPan (nc P t27_7)) fun t36_16 =>
 M.bind (noPan (fa 2 t36_16)) fun t37_17 =>
 M.bind (noPan (fa 16 t37_17)) fun t38_18 =>
 M.bind (noPan (st 1 true t38_18 t35_15)) fun _ =>
 M.pure [v0, .undef, v2, .undef, .undef, .undef, v6, v7, .undef, .undef, .undef, .undef, .undef, .undef, .undef, .undef, .undef, .undef, .undef, (strip v0), (strip t20_0), t21_1, (strip v0), t23_3, t24_4, t25_5, t26_6, t27_7, t28_8, t29_9, t30_10, t31_11, (strip t32_12), t33_13, t34_14, (strip t35_15), t36_16, t37_17, t38_18, .undef]) <|
 M.bind (noPan (M.pure (strip v0))) fun t27_33 =>
 M.bind (noPan (M.pure (strip v0))) fun t28_34 =>
 M.bind (noPan (nc P t28_34)) fun t29_35 =>
 M.bind (noPan (fa 2 t29_35)) fun t30_36 =>
 M.bind (noPan (fa 16 t30_36)) fun t31_37 =>
 M.bind (noPan (ld none true t31_37)) fun t32_38 =>
 M.bind (noPan (ld (some 3) false v2)) fun t33_39 =>
 M.bind (noPan (bs true (some 3) [t33_39])) fun t34_40 =>
 M.bind (noPan (ap true 3 16 t32_38 t34_40)) fun t35_41 =>
 M.bind (noPan (nc P t27_33)) fun t36_42 =>
 M.bind (noPan (fa 2 t36_42)) fun t37_43 =>
 M.bind (noPan (fa 16 t37_43)) fun t38_44 =>
 M.bind (noPan (st 1 true t38_44 t35_41)) fun _ =>
 M.bind (bi .add .none v7 (.int .u32 1)) fun t39_46 =>
 u27 v0 v6 (strip t39_46)) :=
 (u0j P X _ _ _).trans (by kernel_rfl)
theorem ubj (a0 : PV) : C u1z [a0] =
 trunc (M.bind (C u21 [(strip (strip a0))]) fun t4_0 =>
 M.bind (C u1n [(strip (strip a0)), (.int .u32 65536), (.int .i64 2)]) fun t6_1 =>
 u27 a0 t6_1 (.int .u32 0)) := by
 rw [C, u03 _ _ rfl]; kernel_rfl
theorem uci (a0 : PV) : C u2w [a0] =
 trunc (M.bind (C u0k [(strip (strip a0))]) fun t4_0 =>
 M.bind (nc P (strip a0)) fun t5_1 =>
 M.bind (fa 2 t5_1) fun t6_2 =>
 M.bind (fa 1 t6_2) fun t7_3 =>
 M.bind (st 1 true t7_3 t4_0) fun _ =>
 M.pure (.tup [])) := by
 rw [C, u03 _ _ rfl]; kernel_rfl
theorem ubt (a0 : PV) : C u4f [a0] =
 trunc (M.bind (C u0k [(strip (strip a0))]) fun t4_0 =>
 M.bind (nc P (strip a0)) fun t5_1 =>
 M.bind (fa 2 t5_1) fun t6_2 =>
 M.bind (fa 1 t6_2) fun t7_3 =>
 M.bind (st 1 true t7_3 t4_0) fun _ =>
 M.bind (C u0k [(strip (strip a0))]) fun t10_5 =>
 M.bind (nc P (strip a0)) fun t11_6 =>
 M.bind (fa 2 t11_6) fun t12_7 =>
 M.bind (fa 2 t12_7) fun t13_8 =>
 M.bind (st 1 true t13_8 t10_5) fun _ =>
 M.pure (.tup [])) := by
 rw [C, u03 _ _ rfl]; kernel_rfl
noncomputable def u2s (v0 v3 v4 : PV) : M PV := atP P X u23 [0, 1, 0] (mkEnv 27 0 [(0, v0), (3, v3), (4, v4)])
theorem u5d (v0 v3 v4 : PV) : u2s v0 v3 v4 =
 M.bind (bi .lss .none v4 v3) fun t5_0 =>
 condM t5_0
 (chk
 (M.bind (noPan (M.pure (strip v0))) fun t6_15 =>
 M.bind (noPan (M.pure (strip v0))) fun t7_16 =>
 M.bind (noPan (nc P t7_16)) fun t8_17 =>
 M.bind (noPan (fa 2 t8_17)) fun t9_18 =>
 M.bind (noPan (fa 14 t9_18)) fun t10_19 =>
 M.bind (noPan (M.pure (strip v0))) fun t12_20 =>
 M.bind (noPan (C u0k [(strip t12_20)])) fun t13_21 =>
 M.bind (noPan (bs true none [t13_21])) fun t14_22 =>
 M.bind (noPan (ld none true t10_19)) fun t11_23 =>
 M.bind (noPan (ap true 1 4 t11_23 t14_22)) fun t15_24 =>
 M.bind (noPan (nc P t6_15)) fun t16_25 =>
 M.bind (noPan (fa 2 t16_25)) fun t17_26 =>
 M.bind (noPan (fa 14 t17_26)) fun t18_27 =>
 M.bind (noPan (st 1 true t18_27 t15_24)) fun _ =>
 M.pure [v0, .undef, .undef, v3, v4, t5_0, t6_15, t7_16, t8_17, t9_18, t10_19, (strip t11_23), t12_20, t13_21, t14_22, (strip t15_24), t16_25, t17_26, t18_27, .undef, .undef, .undef, .undef, .undef, .undef, .undef, .undef])
 (M.bind (noPan (M.pure (strip v0))) fun t6_1 =>
 M.bind (noPan (M.pure (strip v0))) fun t7_2 =>
 M.bind (noPan (nc P t7_2)) fun t8_3 =>
 M.bind (noPan (fa 2 t8_3)) fun t9_4 =>
 M.bind (noPan (fa 14 t9_4)) fun t10_5 =>
 M.bind (noPan (M.pure (strip v0))) fun t12_6 =>
 M.bind (noPan (ld none true t10_5)) fun t11_7 =>
 M.bind (noPan (C u0k [(strip t12_6)])) fun t13_8 =>
 M.bind (noPan (bs true none [t13_8])) fun t14_9 =>
 M.bind (noPan (ap true 1 4 t11_7 t14_9)) fun t15_10 =>
 M.bind (noPan (nc P t6_1)) fun t16_11 =>
 M.bind (noPan (fa 2 t16_11)) fun t17_12 =>
 M.bind (noPan (fa 14 t17_12)) fun t18_13 =>
 M.bind (noPan (st 1 true t18_13 t15_10)) fun _ =>
 M.pure [v0, .undef, .undef, v3, v4, t5_0, t6_1, t7_2, t8_3, t9_4, t10_5, (strip t11_7), t12_6, t13_8, t14_9, (strip t15_10), t16_11, t17_12, t18_13, .undef, .undef, .undef, .undef, .undef, .undef, .undef, .undef]) <|
 M.bind (noPan (M.pure (strip v0))) fun t6_29 =>
 M.bind (noPan (M.pure (strip v0))) fun t7_30 =>
 M.bind (noPan (nc P t7_30)) fun t8_31 =>
 M.bind (noPan (fa 2 t8_31)) fun t9_32 =>
 M.bind (noPan (fa 14 t9_32)) fun t10_33 =>
 M.bind (noPan (M.pure (strip v0))) fun t12_34 =>
 M.bind (noPan (ld none true t10_33)) fun t11_35 =>
 M.bind (noPan (C u0k [(strip t12_34)])) fun t13_36 =>
 M.bind (noPan (bs true none [t13_36])) fun t14_37 =>
 M.bind (noPan (ap true 1 4 t11_35 t14_37)) fun t15_38 =>
 M.bind (noPan (nc P t6_29)) fun t16_39 =>
 M.bind (noPan (fa 2 t16_39)) fun t17_40 =>
 M.bind (noPan (fa 14 t17_40)) fun t18_41 =>
 M.bind (noPan (st 1 true t18_41 t15_38)) fun _ =>
 M.bind (nc P (strip v0)) fun t20_43 =>
 M.bind (fa 20 t20_43) fun t21_44 =>
 M.bind (ld none false t21_44) fun t22_45 =>
 M.bind (bi .neq .none t22_45 (.int .i64 0)) fun t23_46 =>
 condM t23_46
 (M.pure (.tup []))
 (M.bind (bi .add .none v4 (.int .u32 1)) fun t24_47 =>
 u2s v0 v3 (strip t24_47)))
 (M.bind (C u2w [(strip (strip v0))]) fun t26_48 =>
 M.pure (.tup [])) :=
 (u0j P X _ _ _).trans (by kernel_rfl)
theorem u9b (a0 : PV) : C u23 [a0] =
 trunc (M.bind (C u1n [(strip (strip a0)), (.int .u32 65536), (.int .i64 2)]) fun t3_0 =>
 u2s a0 t3_0 (.int .u32 0)) := by
 rw [C, u03 _ _ rfl]; kernel_rfl
end Go.Proofs.YthidcpkcfoldmaaGreat.Pi.Q
namespace Go.Proofs.YthidcpkcfoldmaaGreat.Pi.Q
open Go Go.Proofs.YthidcpkcfoldmaaGreat.Pi
noncomputable def u2t (v0 v3 v4 : PV) : M PV := atP P X u1r [1, 0] (mkEnv 25 0 [(0, v0), (3, v3), (4, v4)])
theorem u5a (v0 v3 v4 : PV) : u2t v0 v3 v4 =
 M.bind (bi .lss .none v4 v3) fun t5_0 =>
 condM t5_0
 (chk
 (M.bind (noPan (M.pure (strip v0))) fun t6_15 =>
 M.bind (noPan (M.pure (strip v0))) fun t7_16 =>
 M.bind (noPan (nc P t7_16)) fun t8_17 =>
 M.bind (noPan (fa 2 t8_17)) fun t9_18 =>
 M.bind (noPan (fa 15 t9_18)) fun t10_19 =>
 M.bind (noPan (M.pure (strip v0))) fun t12_20 =>
 M.bind (noPan (C u14 [(strip t12_20), (.fn u2i [] [])])) fun t13_21 =>
 M.bind (noPan (bs true (some 3) [t13_21])) fun t14_22 =>
 M.bind (noPan (ld none true t10_19)) fun t11_23 =>
 M.bind (noPan (ap true 3 24 t11_23 t14_22)) fun t15_24 =>
 M.bind (noPan (nc P t6_15)) fun t16_25 =>
 M.bind (noPan (fa 2 t16_25)) fun t17_26 =>
 M.bind (noPan (fa 15 t17_26)) fun t18_27 =>
 M.bind (noPan (st 1 true t18_27 t15_24)) fun _ =>
 M.pure [v0, .undef, .undef, v3, v4, t5_0, t6_15, t7_16, t8_17, t9_18, t10_19, (strip t11_23), t12_20, t13_21, t14_22, (strip t15_24), t16_25, t17_26, t18_27, .undef, .undef, .undef, .undef, .undef, .undef])
 (M.bind (noPan (M.pure (strip v0))) fun t6_1 =>
 M.bind (noPan (M.pure (strip v0))) fun t7_2 =>
 M.bind (noPan (nc P t7_2)) fun t8_3 =>
 M.bind (noPan (fa 2 t8_3)) fun t9_4 =>
 M.bind (noPan (fa 15 t9_4)) fun t10_5 =>
 M.bind (noPan (M.pure (strip v0))) fun t12_6 =>
 M.bind (noPan (ld none true t10_5)) fun t11_7 =>
 M.bind (noPan (C u14 [(strip t12_6), (.fn u2i [] [])])) fun t13_8 =>
 M.bind (noPan (bs true (some 3) [t13_8])) fun t14_9 =>
 M.bind (noPan (ap true 3 24 t11_7 t14_9)) fun t15_10 =>
 M.bind (noPan (nc P t6_1)) fun t16_11 =>
 M.bind (noPan (fa 2 t16_11)) fun t17_12 =>
 M.bind (noPan (fa 15 t17_12)) fun t18_13 =>
 M.bind (noPan (st 1 true t18_13 t15_10)) fun _ =>
 M.pure [v0, .undef, .undef, v3, v4, t5_0, t6_1, t7_2, t8_3, t9_4, t10_5, (strip t11_7), t12_6, t13_8, t14_9, (strip t15_10), t16_11, t17_12, t18_13, .undef, .undef, .undef, .undef, .undef, .undef]) <|
 M.bind (noPan (M.pure (strip v0))) fun t6_29 =>
 M.bind (noPan (M.pure (strip v0))) fun t7_30 =>
 M.bind (noPan (nc P t7_30)) fun t8_31 =>
 M.bind (noPan (fa 2 t8_31)) fun t9_32 =>
 M.bind (noPan (fa 15 t9_32)) fun t10_33 =>
 M.bind (noPan (M.pure (strip v0))) fun t12_34 =>
 M.bind (noPan (ld none true t10_33)) fun t11_35 =>
 M.bind (noPan (C u14 [(strip t12_34), (.fn u2i [] [])])) fun t13_36 =>
 M.bind (noPan (bs true (some 3) [t13_36])) fun t14_37 =>
 M.bind (noPan (ap true 3 24 t11_35 t14_37)) fun t15_38 =>
 M.bind (noPan (nc P t6_29)) fun t16_39 =>
 M.bind (noPan (fa 2 t16_39)) fun t17_40 =>
 M.bind (noPan (fa 15 t17_40)) fun t18_41 =>
 M.bind (noPan (st 1 true t18_41 t15_38)) fun _ =>
 M.bind (nc P (strip v0)) fun t20_43 =>
 M.bind (fa 20 t20_43) fun t21_44 =>
 M.bind (ld none false t21_44) fun t22_45 =>
 M.bind (bi .neq .none t22_45 (.int .i64 0)) fun t23_46 =>
 condM t23_46
 (M.pure (.tup []))
 (M.bind (bi .add .none v4 (.int .u32 1)) fun t24_47 =>
 u2t v0 v3 (strip t24_47)))
 (M.pure (.tup [])) :=
 (u0j P X _ _ _).trans (by kernel_rfl)
theorem u94 (a0 : PV) : C u1r [a0] =
 trunc (M.bind (C u1n [(strip (strip a0)), (.int .u32 1000), (.int .i64 2)]) fun t3_0 =>
 u2t a0 t3_0 (.int .u32 0)) := by
 rw [C, u03 _ _ rfl]; kernel_rfl
noncomputable def u4w (v0 : PV) : M PV := atP P X u2q [1, 1, 1] (mkEnv 29 0 [(0, v0)])
theorem u65 (v0 : PV) : u4w v0 =
 M.bind (C u12 [(.fn u5c [] [])]) fun t23_0 =>
 M.bind (C u29 [(strip (strip v0)), (strip t23_0)]) fun t24_1 =>
 M.bind (nc P (strip v0)) fun t25_2 =>
 M.bind (fa 2 t25_2) fun t26_3 =>
 M.bind (fa 4 t26_3) fun t27_4 =>
 M.bind (fa 2 t27_4) fun t28_5 =>
 M.bind (st 1 true t28_5 t24_1) fun _ =>
 M.pure (.tup []) :=
 (u0j P X _ _ _).trans (by kernel_rfl)
theorem ube (a0 : PV) : C u2q [a0] =
 trunc (M.bind (C u1n [(strip (strip a0)), (.int .u32 127), (.int .i64 4)]) fun t4_0 =>
 M.bind (bi .and .none (strip t4_0) (.int .u32 63)) fun t7_1 =>
 M.bind (nc P (strip a0)) fun t8_2 =>
 M.bind (fa 2 t8_2) fun t9_3 =>
 M.bind (fa 4 t9_3) fun t10_4 =>
 M.bind (fa 0 t10_4) fun t11_5 =>
 M.bind (st 1 true t11_5 t7_1) fun _ =>
 M.bind (bi .gtr .none (strip t4_0) (.int .u32 63)) fun t13_7 =>
 condM t13_7
 (M.bind (C u0k [(strip (strip a0))]) fun t16_8 =>
 M.bind (nc P (strip a0)) fun t17_9 =>
 M.bind (fa 2 t17_9) fun t18_10 =>
 M.bind (fa 4 t18_10) fun t19_11 =>
 M.bind (fa 1 t19_11) fun t20_12 =>
 M.bind (st 1 true t20_12 t16_8) fun _ =>
 u4w a0)
 (u4w a0)) := by
 rw [C, u03 _ _ rfl]; kernel_rfl
theorem uay (a0 : PV) : C u3x [a0] =
 trunc (M.bind (C u3r [(.fn u5s [] [])]) fun t4_0 =>
 M.bind (C u52 [(strip (strip a0)), (strip t4_0)]) fun t5_1 =>
 M.bind (cv (.int .u32) true t5_1) fun t6_2 =>
 M.bind (cv (.int .u64) true t6_2) fun t7_3 =>
 M.bind (nc P (strip a0)) fun t8_4 =>
 M.bind (fa 2 t8_4) fun t9_5 =>
 M.bind (fa 3 t9_5) fun t10_6 =>
 M.bind (st 1 true t10_6 t7_3) fun _ =>
 M.pure (.tup [])) := by
 rw [C, u03 _ _ rfl]; kernel_rfl
theorem ub4 (a0 : PV) : C u3t [a0] =
 trunc (M.bind (C u3q [(.fn u5v [] [])]) fun t4_0 =>
 M.bind (C u53 [(strip (strip a0)), (strip t4_0)]) fun t5_1 =>
 M.bind (cv (.int .u64) true t5_1) fun t6_2 =>
 M.bind (nc P (strip a0)) fun t7_3 =>
 M.bind (fa 2 t7_3) fun t8_4 =>
 M.bind (fa 3 t8_4) fun t9_5 =>
 M.bind (st 1 true t9_5 t6_2) fun _ =>
 M.pure (.tup [])) := by
 rw [C, u03 _ _ rfl]; kernel_rfl
theorem uba (a0 : PV) : C u3u [a0] =
 trunc (M.bind (C u1h [(.fn u5t [] [])]) fun t4_0 =>
 M.bind (C u2c [(strip (strip a0)), (strip t4_0)]) fun t5_1 =>
 M.bind (cv (.int .u64) true t5_1) fun t6_2 =>
 M.bind (nc P (strip a0)) fun t7_3 =>
 M.bind (fa 2 t7_3) fun t8_4 =>
 M.bind (fa 3 t8_4) fun t9_5 =>
 M.bind (st 1 true t9_5 t6_2) fun _ =>
 M.pure (.tup [])) := by
 rw [C, u03 _ _ rfl]; kernel_rfl
theorem ubh (a0 : PV) : C u3n [a0] =
 trunc (M.bind (C u12 [(.fn u5y [] [])]) fun t4_0 =>
 M.bind (C u29 [(strip (strip a0)), (strip t4_0)]) fun t5_1 =>
 M.bind (nc P (strip a0)) fun t6_2 =>
 M.bind (fa 2 t6_2) fun t7_3 =>
 M.bind (fa 3 t7_3) fun t8_4 =>
 M.bind (st 1 true t8_4 t5_1) fun _ =>
 M.pure (.tup [])) := by
 rw [C, u03 _ _ rfl]; kernel_rfl
theorem uag (a0 : PV) : C u35 [a0] =
 trunc (M.bind (C u2o [(strip (strip a0)), (.bool true)]) fun t3_0 =>
 M.pure (.tup [])) := by
 rw [C, u03 _ _ rfl]; kernel_rfl
theorem uae (a0 : PV) : C u38 [a0] =
 trunc (M.bind (nc P (strip a0)) fun t4_0 =>
 M.bind (fa 2 t4_0) fun t5_1 =>
 M.bind (fa 0 t5_1) fun t6_2 =>
 M.bind (ld none false t6_2) fun t7_3 =>
 M.bind (bi .and .none t7_3 (.int .i64 1)) fun t8_4 =>
 M.bind (bi .eql .none t8_4 (.int .i64 1)) fun t9_5 =>
 M.bind (C u2o [(strip (strip a0)), (strip t9_5)]) fun t10_6 =>
 M.pure (.tup [])) := by
 rw [C, u03 _ _ rfl]; kernel_rfl
theorem u92 (a0 : PV) : C u2k [a0] =
 trunc (M.bind (C u1f [(strip (strip a0)), (.int .u8 3)]) fun t4_0 =>
 M.bind (C u2w [(strip (strip a0))]) fun t6_1 =>
 M.bind (bi .and .none (strip t4_0) (.int .u8 1)) fun t9_2 =>
 M.bind (bi .neq .none t9_2 (.int .u8 0)) fun t10_3 =>
 M.bind (C u2o [(strip (strip a0)), (strip t10_3)]) fun t11_4 =>
 M.bind (bi .and .none (strip t4_0) (.int .u8 2)) fun t14_5 =>
 M.bind (bi .neq .none t14_5 (.int .u8 0)) fun t15_6 =>
 M.bind (C u2o [(strip (strip a0)), (strip t15_6)]) fun t16_7 =>
 M.pure (.tup [])) := by
 rw [C, u03 _ _ rfl]; kernel_rfl
theorem ubv (a0 : PV) : C u44 [a0] =
 trunc (M.bind (C u0k [(strip (strip a0))]) fun t4_0 =>
 M.bind (nc P (strip a0)) fun t5_1 =>
 M.bind (fa 2 t5_1) fun t6_2 =>
 M.bind (fa 1 t6_2) fun t7_3 =>
 M.bind (st 1 true t7_3 t4_0) fun _ =>
 M.bind (C u0k [(strip (strip a0))]) fun t10_5 =>
 M.bind (cv (.int .u64) true t10_5) fun t11_6 =>
 M.bind (nc P (strip a0)) fun t12_7 =>
 M.bind (fa 2 t12_7) fun t13_8 =>
 M.bind (fa 3 t13_8) fun t14_9 =>
 M.bind (st 1 true t14_9 t11_6) fun _ =>
 M.pure (.tup [])) := by
 rw [C, u03 _ _ rfl]; kernel_rfl
noncomputable def u4l (v0 v1 v4 : PV) : M PV := atP P X u1f [1, 1] (mkEnv 62 0 [(0, v0), (1, v1), (4, v4)])
noncomputable def u3g (v0 v4 v5 : PV) : M PV := atP P X u1f [1, 1, 1, 1, 1] (mkEnv 62 0 [(0, v0), (4, v4), (5, v5)])
theorem u25 (v0 v1 v4 : PV) : u4l v0 v1 v4 =
 M.bind (nc P (strip v0)) fun t31_0 =>
 M.bind (fa 20 t31_0) fun t32_1 =>
 M.bind (ld none false t32_1) fun t33_2 =>
 M.bind (bi .neq .none t33_2 (.int .i64 0)) fun t34_3 =>
 condM t34_3
 (M.pure (.int .u8 0))
 (nb (nc P (strip v0)) fun t36_4 =>
 nb (fa 0 t36_4) fun t37_5 =>
 nb (ld none false t37_5) fun t38_6 =>
 nb (nc P (strip v0)) fun t40_7 =>
 nb (fa 1 t40_7) fun t41_8 =>
 nb (ld none false t41_8) fun t42_9 =>
 nb (iaS 1 t38_6 t42_9) fun t43_10 =>
 nb (ld none true t43_10) fun t44_11 =>
 M.bind (bi .gtr .none (strip t44_11) (strip v1)) fun t47_12 =>
 condM t47_12
 (M.bind (nc P (strip v0)) fun t50_13 =>
 M.bind (fa 1 t50_13) fun t51_14 =>
 M.bind (ld none false t51_14) fun t52_15 =>
 M.bind (C u0g [(strip (strip v0)), (strip t52_15), (.int .i64 4)]) fun t53_16 =>
 u3g v0 v4 t44_11)
 (u3g v0 v4 t44_11)) :=
 (u0j P X _ _ _).trans (by kernel_rfl)
theorem u4t (v0 v4 v5 : PV) : u3g v0 v4 v5 =
 M.bind (nc P (strip v0)) fun t55_0 =>
 M.bind (fa 1 t55_0) fun t56_1 =>
 M.bind (ld none false t56_1) fun t57_2 =>
 M.bind (bi .add .none t57_2 (.int .i64 1)) fun t58_3 =>
 M.bind (nc P (strip v0)) fun t59_4 =>
 M.bind (fa 1 t59_4) fun t60_5 =>
 M.bind (st 1 true t60_5 t58_3) fun _ =>
 resT v5 (M.pure v5) :=
 (u0j P X _ _ _).trans (by kernel_rfl)
theorem u9n (a0 a1 : PV) : C u1f [a0, a1] =
 trunc (nb (nc P (strip a0)) fun t7_0 =>
 nb (fa 20 t7_0) fun t8_1 =>
 nb (ld none false t8_1) fun t9_2 =>
 nb (bi .eql .none t9_2 (.int .i64 0)) fun t10_3 =>
 nb (gd (strip t10_3) true (M.pure (strip a0))) fun t12_4 =>
 nb (gd (strip t10_3) true (nc P t12_4)) fun t13_5 =>
 nb (gd (strip t10_3) true (fa 1 t13_5)) fun t14_6 =>
 nb (gd (strip t10_3) true (ld none false t14_6)) fun t15_7 =>
 nb (gd (strip t10_3) true (M.pure (strip a0))) fun t16_8 =>
 nb (gd (strip t10_3) true (nc P t16_8)) fun t17_9 =>
 nb (gd (strip t10_3) true (fa 0 t17_9)) fun t18_10 =>
 nb (gd (strip t10_3) true (ld none false t18_10)) fun t19_11 =>
 nb (gd (strip t10_3) true (lnL t19_11)) fun t20_12 =>
 nb (gd (strip t10_3) true (bi .geq .none t15_7 t20_12)) fun t21_13 =>
 nb (pick (strip t10_3) t21_13 (.bool false)) fun t22_14 =>
 condM t22_14
 (M.bind (nc P (strip a0)) fun t25_15 =>
 M.bind (fa 0 t25_15) fun t26_16 =>
 M.bind (ld none false t26_16) fun t27_17 =>
 M.bind (lnL t27_17) fun t28_18 =>
 M.bind (C u0g [(strip (strip a0)), (strip t28_18), (.int .i64 3)]) fun t29_19 =>
 u4l a0 a1 (.int .u8 0))
 (u4l a0 a1 (.int .u8 0))) := by
 rw [C, u03 _ _ rfl]; kernel_rfl
theorem uah (a0 a1 a2 : PV) : C u0g [a0, a1, a2] =
 trunc (M.bind (nc P (strip a0)) fun t7_0 =>
 M.bind (fa 20 t7_0) fun t8_1 =>
 M.bind (ld none false t8_1) fun t9_2 =>
 M.bind (bi .eql .none t9_2 (.int .i64 0)) fun t10_3 =>
 M.bind (gd (strip t10_3) true (M.pure (strip a2))) fun t12_4 =>
 M.bind (gd (strip t10_3) true (bi .neq .none t12_4 (.int .i64 0))) fun t13_5 =>
 M.bind (pick (strip t10_3) t13_5 (.bool false)) fun t14_6 =>
 condM t14_6
 (M.bind (nc P (strip a0)) fun t19_7 =>
 M.bind (fa 19 t19_7) fun t20_8 =>
 M.bind (st 1 true t20_8 a1) fun _ =>
 M.bind (nc P (strip a0)) fun t21_10 =>
 M.bind (fa 20 t21_10) fun t22_11 =>
 M.bind (st 1 true t22_11 a2) fun _ =>
 M.pure (.tup []))
 (M.pure (.tup []))) := by
 rw [C, u03 _ _ rfl]; kernel_rfl
theorem uad (a0 a1 a2 : PV) : C u1n [a0, a1, a2] =
 trunc (M.bind (nc P (strip a0)) fun t10_0 =>
 M.bind (fa 1 t10_0) fun t11_1 =>
 M.bind (ld none true t11_1) fun t12_2 =>
 M.bind (C u0k [(strip (strip a0))]) fun t14_3 =>
 M.bind (nc P (strip a0)) fun t16_4 =>
 M.bind (fa 20 t16_4) fun t17_5 =>
 M.bind (ld none false t17_5) fun t18_6 =>
 M.bind (bi .eql .none t18_6 (.int .i64 0)) fun t19_7 =>
 M.bind (gd (strip t19_7) true (M.pure (strip t14_3))) fun t21_8 =>
 M.bind (gd (strip t19_7) true (M.pure (strip a1))) fun t22_9 =>
 M.bind (gd (strip t19_7) true (bi .gtr .none t21_8 t22_9)) fun t23_10 =>
 M.bind (pick (strip t19_7) t23_10 (.bool false)) fun t24_11 =>
 condM t24_11
 (M.bind (C u0g [(strip (strip a0)), (strip (strip t12_2)), (strip (strip a2))]) fun t28_12 =>
 M.pure (.int .u32 0))
 (resT t14_3 (M.pure t14_3))) := by
 rw [C, u03 _ _ rfl]; kernel_rfl
end Go.Proofs.YthidcpkcfoldmaaGreat.Pi.Q
namespace Go.Proofs.YthidcpkcfoldmaaGreat.Pi.Q
open Go Go.Proofs.YthidcpkcfoldmaaGreat.Pi
noncomputable def u4n (v1 v4 v7 v8 v9 : PV) : M PV := atP P X u63 [1, 0, 1, 0] (mkEnv 42 0 [(1, v1), (4, v4), (7, v7), (8, v8), (9, v9)])
theorem u3d (v1 v4 v7 v8 v9 : PV) : u4n v1 v4 v7 v8 v9 =
 M.bind (bi .lss .none v9 v8) fun t10_0 =>
 condM t10_0
 (M.bind (iaS 5 v7 v9) fun t11_1 =>
 M.bind (ld (some 5) true t11_1) fun t12_2 =>
 M.bind (al [(.int .i64 0), (.int .i64 0), (.str ⟨#[]⟩), (.str ⟨#[]⟩), (.int .i64 0)]) fun t6_3 =>
 M.bind (st 5 true t6_3 t12_2) fun _ =>
 M.bind (fa 0 t6_3) fun t14_5 =>
 M.bind (ld none false t14_5) fun t15_6 =>
 M.bind (bi .geq .none (strip v1) t15_6) fun t16_7 =>
 M.bind (gd (strip t16_7) true (M.pure (strip v1))) fun t18_8 =>
 M.bind (gd (strip t16_7) true (fa 0 t6_3)) fun t19_9 =>
 M.bind (gd (strip t16_7) true (ld none false t19_9)) fun t20_10 =>
 M.bind (gd (strip t16_7) true (fa 1 t6_3)) fun t21_11 =>
 M.bind (gd (strip t16_7) true (ld none false t21_11)) fun t22_12 =>
 M.bind (gd (strip t16_7) true (bi .add .none t20_10 t22_12)) fun t23_13 =>
 M.bind (gd (strip t16_7) true (bi .lss .none t18_8 t23_13)) fun t24_14 =>
 M.bind (pick (strip t16_7) t24_14 (.bool false)) fun t25_15 =>
 condM t25_15
 (nb (M.pure (strip v1)) fun t26_16 =>
 nb (fa 2 t6_3) fun t27_17 =>
 guardM (!clash (tld t27_17) (.no) && true) <| nb (ld none false t27_17) fun t28_18 =>
 nb (fa 3 t6_3) fun t29_19 =>
 guardM (!clash (tld t29_19) (tld t27_17) && (!clash (tld t29_19) (.no) && (!clash (tld t29_19) (.no) && true))) <| nb (ld none false t29_19) fun t30_20 =>
 nb (M.pure (strip v1)) fun t31_21 =>
 nb (fa 0 t6_3) fun t32_22 =>
 guardM (!clash (tld t32_22) (.no) && (!clash (tld t32_22) (tld t29_19) && (!clash (tld t32_22) (.no) && (!clash (tld t32_22) (tld t27_17) && (!clash (tld t32_22) (.no) && (!clash (tld t32_22) (.no) && true)))))) <| nb (ld none false t32_22) fun t33_23 =>
 nb (bi .sub .none t31_21 t33_23) fun t34_24 =>
 guardM (!clash (.any) (tld t27_17) && (!clash (.any) (.no) && (!clash (.any) (.no) && true))) <| nb (C u8p [(strip t30_20), (strip t34_24)]) fun t35_25 =>
 nb (bi .add .none t28_18 t35_25) fun t36_26 =>
 nb (fa 4 t6_3) fun t37_27 =>
 guardM (!clash (tld t37_27) (.no) && (!clash (tld t37_27) (.any) && (!clash (tld t37_27) (.no) && (!clash (tld t37_27) (tld t32_22) && (!clash (tld t37_27) (.no) && (!clash (tld t37_27) (.no) && (!clash (tld t37_27) (tld t29_19) && (!clash (tld t37_27) (.no) && (!clash (tld t37_27) (tld t27_17) && (!clash (tld t37_27) (.no) && (!clash (tld t37_27) (.no) && true))))))))))) <| nb (ld none false t37_27) fun t38_28 =>
 nb (bd [(.int .i64 0), (.str ⟨#[]⟩), (.int .i64 0)] [(0, 1, t26_16), (1, 1, t36_26), (2, 1, t38_28)]) fun t39_29 =>
 M.bind (noPan (st 3 true v4 t39_29)) fun _ =>
 M.bind (ld (some 3) true v4) fun t0_31 => guardM (!isTup t0_31) (M.pure t0_31))
 (M.bind (bi .add .none v9 (.int .i64 1)) fun t40_32 =>
 u4n v1 v4 v7 v8 (strip t40_32)))
 (M.bind (bd [(.int .i64 0), (.str ⟨#[]⟩), (.int .i64 0)] []) fun t41_33 =>
 M.bind (st 3 true v4 t41_33) fun _ =>
 M.bind (ld (some 3) true v4) fun t0_35 => guardM (!isTup t0_35) (M.pure t0_35)) :=
 (u0j P X _ _ _).trans (by kernel_rfl)
theorem uer (a0 a1 : PV) : C u63 [a0, a1] =
 trunc (M.bind (al [(.int .i64 0), (.str ⟨#[]⟩), (.int .i64 0)]) fun t4_0 =>
 M.bind (lnL (strip a0)) fun t8_1 =>
 u4n a1 t4_0 (strip a0) t8_1 (.int .i64 0)) := by
 rw [C, u03 _ _ rfl]; kernel_rfl
theorem ue7 : C u7n [] =
 trunc (M.bind (bd [(.int .i64 0), (.int .i64 0), (.str ⟨#[]⟩), (.str ⟨#[]⟩), (.int .i64 0)] [(0, 1, (.int .i64 0)), (1, 1, (.int .i64 2)), (2, 1, (.str ⟨#[]⟩)), (3, 1, (.str ⟨#[117, 110, 114, 101, 97, 99, 104, 97, 98, 108, 101, 32, 110, 111, 112]⟩)), (4, 1, (.int .i64 1))]) fun t1_0 =>
 M.bind (bd [(.int .i64 0), (.int .i64 0), (.str ⟨#[]⟩), (.str ⟨#[]⟩), (.int .i64 0)] [(0, 1, (.int .i64 2)), (1, 1, (.int .i64 3)), (2, 1, (.str ⟨#[]⟩)), (3, 1, (.str ⟨#[98, 108, 111, 99, 107, 32, 108, 111, 111, 112, 32, 105, 102]⟩)), (4, 1, (.int .i64 2))]) fun t2_1 =>
 M.bind (bd [(.int .i64 0), (.int .i64 0), (.str ⟨#[]⟩), (.str ⟨#[]⟩), (.int .i64 0)] [(0, 1, (.int .i64 5)), (1, 1, (.int .i64 1)), (2, 1, (.str ⟨#[]⟩)), (3, 1, (.str ⟨#[101, 108, 115, 101]⟩)), (4, 1, (.int .i64 1))]) fun t3_2 =>
 M.bind (bd [(.int .i64 0), (.int .i64 0), (.str ⟨#[]⟩), (.str ⟨#[]⟩), (.int .i64 0)] [(0, 1, (.int .i64 8)), (1, 1, (.int .i64 1)), (2, 1, (.str ⟨#[]⟩)), (3, 1, (.str ⟨#[116, 104, 114, 111, 119]⟩)), (4, 1, (.int .i64 4))]) fun t4_3 =>
 M.bind (bd [(.int .i64 0), (.int .i64 0), (.str ⟨#[]⟩), (.str ⟨#[]⟩), (.int .i64 0)] [(0, 1, (.int .i64 10)), (1, 1, (.int .i64 2)), (2, 1, (.str ⟨#[]⟩)), (3, 1, (.str ⟨#[116, 104, 114, 111, 119, 95, 114, 101, 102, 32, 101, 110, 100]⟩)), (4, 1, (.int .i64 1))]) fun t5_4 =>
 M.bind (bd [(.int .i64 0), (.int .i64 0), (.str ⟨#[]⟩), (.str ⟨#[]⟩), (.int .i64 0)] [(0, 1, (.int .i64 12)), (1, 1, (.int .i64 2)), (2, 1, (.str ⟨#[]⟩)), (3, 1, (.str ⟨#[98, 114, 32, 98, 114, 95, 105, 102]⟩)), (4, 1, (.int .i64 4))]) fun t6_5 =>
 M.bind (bd [(.int .i64 0), (.int .i64 0), (.str ⟨#[]⟩), (.str ⟨#[]⟩), (.int .i64 0)] [(0, 1, (.int .i64 14)), (1, 1, (.int .i64 1)), (2, 1, (.str ⟨#[]⟩)), (3, 1, (.str ⟨#[98, 114, 95, 116, 97, 98, 108, 101]⟩)), (4, 1, (.int .i64 6))]) fun t7_6 =>
 M.bind (bd [(.int .i64 0), (.int .i64 0), (.str ⟨#[]⟩), (.str ⟨#[]⟩), (.int .i64 0)] [(0, 1, (.int .i64 15)), (1, 1, (.int .i64 1)), (2, 1, (.str ⟨#[]⟩)), (3, 1, (.str ⟨#[114, 101, 116, 117, 114, 110]⟩)), (4, 1, (.int .i64 1))]) fun t8_7 =>
 M.bind (bd [(.int .i64 0), (.int .i64 0), (.str ⟨#[]⟩), (.str ⟨#[]⟩), (.int .i64 0)] [(0, 1, (.int .i64 16)), (1, 1, (.int .i64 1)), (2, 1, (.str ⟨#[]⟩)), (3, 1, (.str ⟨#[99, 97, 108, 108]⟩)), (4, 1, (.int .i64 4))]) fun t9_8 =>
 M.bind (bd [(.int .i64 0), (.int .i64 0), (.str ⟨#[]⟩), (.str ⟨#[]⟩), (.int .i64 0)] [(0, 1, (.int .i64 17)), (1, 1, (.int .i64 1)), (2, 1, (.str ⟨#[]⟩)), (3, 1, (.str ⟨#[99, 97, 108, 108, 95, 105, 110, 100, 105, 114, 101, 99, 116]⟩)), (4, 1, (.int .i64 5))]) fun t10_9 =>
 M.bind (bd [(.int .i64 0), (.int .i64 0), (.str ⟨#[]⟩), (.str ⟨#[]⟩), (.int .i64 0)] [(0, 1, (.int .i64 18)), (1, 1, (.int .i64 1)), (2, 1, (.str ⟨#[]⟩)), (3, 1, (.str ⟨#[114, 101, 116, 117, 114, 110, 95, 99, 97, 108, 108]⟩)), (4, 1, (.int .i64 4))]) fun t11_10 =>
 M.bind (bd [(.int .i64 0), (.int .i64 0), (.str ⟨#[]⟩), (.str ⟨#[]⟩), (.int .i64 0)] [(0, 1, (.int .i64 19)), (1, 1, (.int .i64 1)), (2, 1, (.str ⟨#[]⟩)), (3, 1, (.str ⟨#[114, 101, 116, 117, 114, 110, 95, 99, 97, 108, 108, 95, 105, 110, 100, 105, 114, 101, 99, 116]⟩)), (4, 1, (.int .i64 5))]) fun t12_11 =>
 M.bind (bd [(.int .i64 0), (.int .i64 0), (.str ⟨#[]⟩), (.str ⟨#[]⟩), (.int .i64 0)] [(0, 1, (.int .i64 20)), (1, 1, (.int .i64 2)), (2, 1, (.str ⟨#[]⟩)), (3, 1, (.str ⟨#[99, 97, 108, 108, 95, 114, 101, 102, 32, 114, 101, 116, 117, 114, 110, 95, 99, 97, 108, 108, 95, 114, 101, 102]⟩)), (4, 1, (.int .i64 4))]) fun t13_12 =>
 M.bind (bd [(.int .i64 0), (.int .i64 0), (.str ⟨#[]⟩), (.str ⟨#[]⟩), (.int .i64 0)] [(0, 1, (.int .i64 26)), (1, 1, (.int .i64 2)), (2, 1, (.str ⟨#[]⟩)), (3, 1, (.str ⟨#[100, 114, 111, 112, 32, 115, 101, 108, 101, 99, 116]⟩)), (4, 1, (.int .i64 1))]) fun t14_13 =>
 M.bind (bd [(.int .i64 0), (.int .i64 0), (.str ⟨#[]⟩), (.str ⟨#[]⟩), (.int .i64 0)] [(0, 1, (.int .i64 28)), (1, 1, (.int .i64 1)), (2, 1, (.str ⟨#[]⟩)), (3, 1, (.str ⟨#[115, 101, 108, 101, 99, 116, 95, 116]⟩)), (4, 1, (.int .i64 7))]) fun t15_14 =>
 M.bind (bd [(.int .i64 0), (.int .i64 0), (.str ⟨#[]⟩), (.str ⟨#[]⟩), (.int .i64 0)] [(0, 1, (.int .i64 31)), (1, 1, (.int .i64 1)), (2, 1, (.str ⟨#[]⟩)), (3, 1, (.str ⟨#[116, 114, 121, 95, 116, 97, 98, 108, 101]⟩)), (4, 1, (.int .i64 3))]) fun t16_15 =>
 M.bind (bd [(.int .i64 0), (.int .i64 0), (.str ⟨#[]⟩), (.str ⟨#[]⟩), (.int .i64 0)] [(0, 1, (.int .i64 32)), (1, 1, (.int .i64 7)), (2, 1, (.str ⟨#[]⟩)), (3, 1, (.str ⟨#[108, 111, 99, 97, 108, 46, 103, 101, 116, 32, 108, 111, 99, 97, 108, 46, 115, 101, 116, 32, 108, 111, 99, 97, 108, 46, 116, 101, 101, 32, 103, 108, 111, 98, 97, 108, 46, 103, 101, 116, 32, 103, 108, 111, 98, 97, 108, 46, 115, 101, 116, 32, 116, 97, 98, 108, 101, 46, 103, 101, 116, 32, 116, 97, 98, 108, 101, 46, 115, 101, 116]⟩)), (4, 1, (.int .i64 4))]) fun t17_16 =>
 M.bind (bd [(.int .i64 0), (.int .i64 0), (.str ⟨#[]⟩), (.str ⟨#[]⟩), (.int .i64 0)] [(0, 1, (.int .i64 40)), (1, 1, (.int .i64 23)), (2, 1, (.str ⟨#[]⟩)), (3, 1, (.str ⟨#[105, 51, 50, 46, 108, 111, 97, 100, 32, 105, 54, 52, 46, 108, 111, 97, 100, 32, 102, 51, 50, 46, 108, 111, 97, 100, 32, 102, 54, 52, 46, 108, 111, 97, 100, 32, 105, 51, 50, 46, 108, 111, 97, 100, 56, 95, 115, 32, 105, 51, 50, 46, 108, 111, 97, 100, 56, 95, 117, 32, 105, 51, 50, 46, 108, 111, 97, 100, 49, 54, 95, 115, 32, 105, 51, 50, 46, 108, 111, 97, 100, 49, 54, 95, 117, 32, 105, 54, 52, 46, 108, 111, 97, 100, 56, 95, 115, 32, 105, 54, 52, 46, 108, 111, 97, 100, 56, 95, 117, 32, 105, 54, 52, 46, 108, 111, 97, 100, 49, 54, 95, 115, 32, 105, 54, 52, 46, 108, 111, 97, 100, 49, 54, 95, 117, 32, 105, 54, 52, 46, 108, 111, 97, 100, 51, 50, 95, 115, 32, 105, 54, 52, 46, 108, 111, 97, 100, 51, 50, 95, 117, 32, 105, 51, 50, 46, 115, 116, 111, 114, 101, 32, 105, 54, 52, 46, 115, 116, 111, 114, 101, 32, 102, 51, 50, 46, 115, 116, 111, 114, 101, 32, 102, 54, 52, 46, 115, 116, 111, 114, 101, 32, 105, 51, 50, 46, 115, 116, 111, 114, 101, 56, 32, 105, 51, 50, 46, 115, 116, 111, 114, 101, 49, 54, 32, 105, 54, 52, 46, 115, 116, 111, 114, 101, 56, 32, 105, 54, 52, 46, 115, 116, 111, 114, 101, 49, 54, 32, 105, 54, 52, 46, 115, 116, 111, 114, 101, 51, 50]⟩)), (4, 1, (.int .i64 8))]) fun t18_17 =>
 M.bind (bd [(.int .i64 0), (.int .i64 0), (.str ⟨#[]⟩), (.str ⟨#[]⟩), (.int .i64 0)] [(0, 1, (.int .i64 63)), (1, 1, (.int .i64 2)), (2, 1, (.str ⟨#[]⟩)), (3, 1, (.str ⟨#[109, 101, 109, 111, 114, 121, 46, 115, 105, 122, 101, 32, 109, 101, 109, 111, 114, 121, 46, 103, 114, 111, 119]⟩)), (4, 1, (.int .i64 4))]) fun t19_18 =>
 M.bind (bd [(.int .i64 0), (.int .i64 0), (.str ⟨#[]⟩), (.str ⟨#[]⟩), (.int .i64 0)] [(0, 1, (.int .i64 65)), (1, 1, (.int .i64 1)), (2, 1, (.str ⟨#[]⟩)), (3, 1, (.str ⟨#[105, 51, 50, 46, 99, 111, 110, 115, 116]⟩)), (4, 1, (.int .i64 9))]) fun t20_19 =>
 M.bind (bd [(.int .i64 0), (.int .i64 0), (.str ⟨#[]⟩), (.str ⟨#[]⟩), (.int .i64 0)] [(0, 1, (.int .i64 66)), (1, 1, (.int .i64 1)), (2, 1, (.str ⟨#[]⟩)), (3, 1, (.str ⟨#[105, 54, 52, 46, 99, 111, 110, 115, 116]⟩)), (4, 1, (.int .i64 10))]) fun t21_20 =>
 M.bind (bd [(.int .i64 0), (.int .i64 0), (.str ⟨#[]⟩), (.str ⟨#[]⟩), (.int .i64 0)] [(0, 1, (.int .i64 67)), (1, 1, (.int .i64 1)), (2, 1, (.str ⟨#[]⟩)), (3, 1, (.str ⟨#[102, 51, 50, 46, 99, 111, 110, 115, 116]⟩)), (4, 1, (.int .i64 11))]) fun t22_21 =>
 M.bind (bd [(.int .i64 0), (.int .i64 0), (.str ⟨#[]⟩), (.str ⟨#[]⟩), (.int .i64 0)] [(0, 1, (.int .i64 68)), (1, 1, (.int .i64 1)), (2, 1, (.str ⟨#[]⟩)), (3, 1, (.str ⟨#[102, 54, 52, 46, 99, 111, 110, 115, 116]⟩)), (4, 1, (.int .i64 12))]) fun t23_22 =>
 M.bind (bd [(.int .i64 0), (.int .i64 0), (.str ⟨#[]⟩), (.str ⟨#[]⟩), (.int .i64 0)] [(0, 1, (.int .i64 69)), (1, 1, (.int .i64 11)), (2, 1, (.str ⟨#[105, 51, 50, 46]⟩)), (3, 1, (.str ⟨#[101, 113, 122, 32, 101, 113, 32, 110, 101, 32, 108, 116, 95, 115, 32, 108, 116, 95, 117, 32, 103, 116, 95, 115, 32, 103, 116, 95, 117, 32, 108, 101, 95, 115, 32, 108, 101, 95, 117, 32, 103, 101, 95, 115, 32, 103, 101, 95, 117]⟩)), (4, 1, (.int .i64 1))]) fun t24_23 =>
 M.bind (bd [(.int .i64 0), (.int .i64 0), (.str ⟨#[]⟩), (.str ⟨#[]⟩), (.int .i64 0)] [(0, 1, (.int .i64 80)), (1, 1, (.int .i64 11)), (2, 1, (.str ⟨#[105, 54, 52, 46]⟩)), (3, 1, (.str ⟨#[101, 113, 122, 32, 101, 113, 32, 110, 101, 32, 108, 116, 95, 115, 32, 108, 116, 95, 117, 32, 103, 116, 95, 115, 32, 103, 116, 95, 117, 32, 108, 101, 95, 115, 32, 108, 101, 95, 117, 32, 103, 101, 95, 115, 32, 103, 101, 95, 117]⟩)), (4, 1, (.int .i64 1))]) fun t25_24 =>
 M.bind (bd [(.int .i64 0), (.int .i64 0), (.str ⟨#[]⟩), (.str ⟨#[]⟩), (.int .i64 0)] [(0, 1, (.int .i64 91)), (1, 1, (.int .i64 6)), (2, 1, (.str ⟨#[102, 51, 50, 46]⟩)), (3, 1, (.str ⟨#[101, 113, 32, 110, 101, 32, 108, 116, 32, 103, 116, 32, 108, 101, 32, 103, 101]⟩)), (4, 1, (.int .i64 1))]) fun t26_25 =>
 M.bind (bd [(.int .i64 0), (.int .i64 0), (.str ⟨#[]⟩), (.str ⟨#[]⟩), (.int .i64 0)] [(0, 1, (.int .i64 97)), (1, 1, (.int .i64 6)), (2, 1, (.str ⟨#[102, 54, 52, 46]⟩)), (3, 1, (.str ⟨#[101, 113, 32, 110, 101, 32, 108, 116, 32, 103, 116, 32, 108, 101, 32, 103, 101]⟩)), (4, 1, (.int .i64 1))]) fun t27_26 =>
 M.bind (bd [(.int .i64 0), (.int .i64 0), (.str ⟨#[]⟩), (.str ⟨#[]⟩), (.int .i64 0)] [(0, 1, (.int .i64 103)), (1, 1, (.int .i64 18)), (2, 1, (.str ⟨#[105, 51, 50, 46]⟩)), (3, 1, (.str ⟨#[99, 108, 122, 32, 99, 116, 122, 32, 112, 111, 112, 99, 110, 116, 32, 97, 100, 100, 32, 115, 117, 98, 32, 109, 117, 108, 32, 100, 105, 118, 95, 115, 32, 100, 105, 118, 95, 117, 32, 114, 101, 109, 95, 115, 32, 114, 101, 109, 95, 117, 32, 97, 110, 100, 32, 111, 114, 32, 120, 111, 114, 32, 115, 104, 108, 32, 115, 104, 114, 95, 115, 32, 115, 104, 114, 95, 117, 32, 114, 111, 116, 108, 32, 114, 111, 116, 114]⟩)), (4, 1, (.int .i64 1))]) fun t28_27 =>
 M.bind (bd [(.int .i64 0), (.int .i64 0), (.str ⟨#[]⟩), (.str ⟨#[]⟩), (.int .i64 0)] [(0, 1, (.int .i64 121)), (1, 1, (.int .i64 18)), (2, 1, (.str ⟨#[105, 54, 52, 46]⟩)), (3, 1, (.str ⟨#[99, 108, 122, 32, 99, 116, 122, 32, 112, 111, 112, 99, 110, 116, 32, 97, 100, 100, 32, 115, 117, 98, 32, 109, 117, 108, 32, 100, 105, 118, 95, 115, 32, 100, 105, 118, 95, 117, 32, 114, 101, 109, 95, 115, 32, 114, 101, 109, 95, 117, 32, 97, 110, 100, 32, 111, 114, 32, 120, 111, 114, 32, 115, 104, 108, 32, 115, 104, 114, 95, 115, 32, 115, 104, 114, 95, 117, 32, 114, 111, 116, 108, 32, 114, 111, 116, 114]⟩)), (4, 1, (.int .i64 1))]) fun t29_28 =>
 M.bind (bd [(.int .i64 0), (.int .i64 0), (.str ⟨#[]⟩), (.str ⟨#[]⟩), (.int .i64 0)] [(0, 1, (.int .i64 139)), (1, 1, (.int .i64 14)), (2, 1, (.str ⟨#[102, 51, 50, 46]⟩)), (3, 1, (.str ⟨#[97, 98, 115, 32, 110, 101, 103, 32, 99, 101, 105, 108, 32, 102, 108, 111, 111, 114, 32, 116, 114, 117, 110, 99, 32, 110, 101, 97, 114, 101, 115, 116, 32, 115, 113, 114, 116, 32, 97, 100, 100, 32, 115, 117, 98, 32, 109, 117, 108, 32, 100, 105, 118, 32, 109, 105, 110, 32, 109, 97, 120, 32, 99, 111, 112, 121, 115, 105, 103, 110]⟩)), (4, 1, (.int .i64 1))]) fun t30_29 =>
 M.bind (bd [(.int .i64 0), (.int .i64 0), (.str ⟨#[]⟩), (.str ⟨#[]⟩), (.int .i64 0)] [(0, 1, (.int .i64 153)), (1, 1, (.int .i64 14)), (2, 1, (.str ⟨#[102, 54, 52, 46]⟩)), (3, 1, (.str ⟨#[97, 98, 115, 32, 110, 101, 103, 32, 99, 101, 105, 108, 32, 102, 108, 111, 111, 114, 32, 116, 114, 117, 110, 99, 32, 110, 101, 97, 114, 101, 115, 116, 32, 115, 113, 114, 116, 32, 97, 100, 100, 32, 115, 117, 98, 32, 109, 117, 108, 32, 100, 105, 118, 32, 109, 105, 110, 32, 109, 97, 120, 32, 99, 111, 112, 121, 115, 105, 103, 110]⟩)), (4, 1, (.int .i64 1))]) fun t31_30 =>
 M.bind (bd [(.int .i64 0), (.int .i64 0), (.str ⟨#[]⟩), (.str ⟨#[]⟩), (.int .i64 0)] [(0, 1, (.int .i64 167)), (1, 1, (.int .i64 5)), (2, 1, (.str ⟨#[105, 51, 50, 46]⟩)), (3, 1, (.str ⟨#[119, 114, 97, 112, 95, 105, 54, 52, 32, 116, 114, 117, 110, 99, 95, 102, 51, 50, 95, 115, 32, 116, 114, 117, 110, 99, 95, 102, 51, 50, 95, 117, 32, 116, 114, 117, 110, 99, 95, 102, 54, 52, 95, 115, 32, 116, 114, 117, 110, 99, 95, 102, 54, 52, 95, 117]⟩)), (4, 1, (.int .i64 1))]) fun t32_31 =>
 M.bind (bd [(.int .i64 0), (.int .i64 0), (.str ⟨#[]⟩), (.str ⟨#[]⟩), (.int .i64 0)] [(0, 1, (.int .i64 172)), (1, 1, (.int .i64 6)), (2, 1, (.str ⟨#[105, 54, 52, 46]⟩)), (3, 1, (.str ⟨#[101, 120, 116, 101, 110, 100, 95, 105, 51, 50, 95, 115, 32, 101, 120, 116, 101, 110, 100, 95, 105, 51, 50, 95, 117, 32, 116, 114, 117, 110, 99, 95, 102, 51, 50, 95, 115, 32, 116, 114, 117, 110, 99, 95, 102, 51, 50, 95, 117, 32, 116, 114, 117, 110, 99, 95, 102, 54, 52, 95, 115, 32, 116, 114, 117, 110, 99, 95, 102, 54, 52, 95, 117]⟩)), (4, 1, (.int .i64 1))]) fun t33_32 =>
 M.bind (bd [(.int .i64 0), (.int .i64 0), (.str ⟨#[]⟩), (.str ⟨#[]⟩), (.int .i64 0)] [(0, 1, (.int .i64 178)), (1, 1, (.int .i64 5)), (2, 1, (.str ⟨#[102, 51, 50, 46]⟩)), (3, 1, (.str ⟨#[99, 111, 110, 118, 101, 114, 116, 95, 105, 51, 50, 95, 115, 32, 99, 111, 110, 118, 101, 114, 116, 95, 105, 51, 50, 95, 117, 32, 99, 111, 110, 118, 101, 114, 116, 95, 105, 54, 52, 95, 115, 32, 99, 111, 110, 118, 101, 114, 116, 95, 105, 54, 52, 95, 117, 32, 100, 101, 109, 111, 116, 101, 95, 102, 54, 52]⟩)), (4, 1, (.int .i64 1))]) fun t34_33 =>
 M.bind (bd [(.int .i64 0), (.int .i64 0), (.str ⟨#[]⟩), (.str ⟨#[]⟩), (.int .i64 0)] [(0, 1, (.int .i64 183)), (1, 1, (.int .i64 5)), (2, 1, (.str ⟨#[102, 54, 52, 46]⟩)), (3, 1, (.str ⟨#[99, 111, 110, 118, 101, 114, 116, 95, 105, 51, 50, 95, 115, 32, 99, 111, 110, 118, 101, 114, 116, 95, 105, 51, 50, 95, 117, 32, 99, 111, 110, 118, 101, 114, 116, 95, 105, 54, 52, 95, 115, 32, 99, 111, 110, 118, 101, 114, 116, 95, 105, 54, 52, 95, 117, 32, 112, 114, 111, 109, 111, 116, 101, 95, 102, 51, 50]⟩)), (4, 1, (.int .i64 1))]) fun t35_34 =>
 M.bind (bd [(.int .i64 0), (.int .i64 0), (.str ⟨#[]⟩), (.str ⟨#[]⟩), (.int .i64 0)] [(0, 1, (.int .i64 188)), (1, 1, (.int .i64 4)), (2, 1, (.str ⟨#[]⟩)), (3, 1, (.str ⟨#[105, 51, 50, 46, 114, 101, 105, 110, 116, 101, 114, 112, 114, 101, 116, 95, 102, 51, 50, 32, 105, 54, 52, 46, 114, 101, 105, 110, 116, 101, 114, 112, 114, 101, 116, 95, 102, 54, 52, 32, 102, 51, 50, 46, 114, 101, 105, 110, 116, 101, 114, 112, 114, 101, 116, 95, 105, 51, 50, 32, 102, 54, 52, 46, 114, 101, 105, 110, 116, 101, 114, 112, 114, 101, 116, 95, 105, 54, 52]⟩)), (4, 1, (.int .i64 1))]) fun t36_35 =>
 M.bind (bd [(.int .i64 0), (.int .i64 0), (.str ⟨#[]⟩), (.str ⟨#[]⟩), (.int .i64 0)] [(0, 1, (.int .i64 192)), (1, 1, (.int .i64 5)), (2, 1, (.str ⟨#[]⟩)), (3, 1, (.str ⟨#[105, 51, 50, 46, 101, 120, 116, 101, 110, 100, 56, 95, 115, 32, 105, 51, 50, 46, 101, 120, 116, 101, 110, 100, 49, 54, 95, 115, 32, 105, 54, 52, 46, 101, 120, 116, 101, 110, 100, 56, 95, 115, 32, 105, 54, 52, 46, 101, 120, 116, 101, 110, 100, 49, 54, 95, 115, 32, 105, 54, 52, 46, 101, 120, 116, 101, 110, 100, 51, 50, 95, 115]⟩)), (4, 1, (.int .i64 1))]) fun t37_36 =>
 M.bind (bs true (some 5) [t1_0, t2_1, t3_2, t4_3, t5_4, t6_5, t7_6, t8_7, t9_8, t10_9, t11_10, t12_11, t13_12, t14_13, t15_14, t16_15, t17_16, t18_17, t19_18, t20_19, t21_20, t22_21, t23_22, t24_23, t25_24, t26_25, t27_26, t28_27, t29_28, t30_29, t31_30, t32_31, t33_32, t34_33, t35_34, t36_35, t37_36]) fun t38_37 =>
 resT t38_37 (M.pure t38_37)) := by
 rw [C, u03 _ _ rfl]; kernel_rfl
theorem uf1 : C u8a [] =
 trunc (M.bind (bd [(.int .i64 0), (.int .i64 0), (.str ⟨#[]⟩), (.str ⟨#[]⟩), (.int .i64 0)] [(0, 1, (.int .i64 208)), (1, 1, (.int .i64 1)), (2, 1, (.str ⟨#[]⟩)), (3, 1, (.str ⟨#[114, 101, 102, 46, 110, 117, 108, 108]⟩)), (4, 1, (.int .i64 13))]) fun t1_0 =>
 M.bind (bd [(.int .i64 0), (.int .i64 0), (.str ⟨#[]⟩), (.str ⟨#[]⟩), (.int .i64 0)] [(0, 1, (.int .i64 209)), (1, 1, (.int .i64 1)), (2, 1, (.str ⟨#[]⟩)), (3, 1, (.str ⟨#[114, 101, 102, 46, 105, 115, 95, 110, 117, 108, 108]⟩)), (4, 1, (.int .i64 1))]) fun t2_1 =>
 M.bind (bd [(.int .i64 0), (.int .i64 0), (.str ⟨#[]⟩), (.str ⟨#[]⟩), (.int .i64 0)] [(0, 1, (.int .i64 210)), (1, 1, (.int .i64 1)), (2, 1, (.str ⟨#[]⟩)), (3, 1, (.str ⟨#[114, 101, 102, 46, 102, 117, 110, 99]⟩)), (4, 1, (.int .i64 4))]) fun t3_2 =>
 M.bind (bd [(.int .i64 0), (.int .i64 0), (.str ⟨#[]⟩), (.str ⟨#[]⟩), (.int .i64 0)] [(0, 1, (.int .i64 211)), (1, 1, (.int .i64 2)), (2, 1, (.str ⟨#[]⟩)), (3, 1, (.str ⟨#[114, 101, 102, 46, 101, 113, 32, 114, 101, 102, 46, 97, 115, 95, 110, 111, 110, 95, 110, 117, 108, 108]⟩)), (4, 1, (.int .i64 1))]) fun t4_3 =>
 M.bind (bd [(.int .i64 0), (.int .i64 0), (.str ⟨#[]⟩), (.str ⟨#[]⟩), (.int .i64 0)] [(0, 1, (.int .i64 213)), (1, 1, (.int .i64 2)), (2, 1, (.str ⟨#[]⟩)), (3, 1, (.str ⟨#[98, 114, 95, 111, 110, 95, 110, 117, 108, 108, 32, 98, 114, 95, 111, 110, 95, 110, 111, 110, 95, 110, 117, 108, 108]⟩)), (4, 1, (.int .i64 4))]) fun t5_4 =>
 M.bind (bd [(.int .i64 0), (.int .i64 0), (.str ⟨#[]⟩), (.str ⟨#[]⟩), (.int .i64 0)] [(0, 1, (.int .i64 64256)), (1, 1, (.int .i64 2)), (2, 1, (.str ⟨#[]⟩)), (3, 1, (.str ⟨#[115, 116, 114, 117, 99, 116, 46, 110, 101, 119, 32, 115, 116, 114, 117, 99, 116, 46, 110, 101, 119, 95, 100, 101, 102, 97, 117, 108, 116]⟩)), (4, 1, (.int .i64 4))]) fun t6_5 =>
 M.bind (bd [(.int .i64 0), (.int .i64 0), (.str ⟨#[]⟩), (.str ⟨#[]⟩), (.int .i64 0)] [(0, 1, (.int .i64 64258)), (1, 1, (.int .i64 4)), (2, 1, (.str ⟨#[]⟩)), (3, 1, (.str ⟨#[115, 116, 114, 117, 99, 116, 46, 103, 101, 116, 32, 115, 116, 114, 117, 99, 116, 46, 103, 101, 116, 95, 115, 32, 115, 116, 114, 117, 99, 116, 46, 103, 101, 116, 95, 117, 32, 115, 116, 114, 117, 99, 116, 46, 115, 101, 116]⟩)), (4, 1, (.int .i64 5))]) fun t7_6 =>
 M.bind (bd [(.int .i64 0), (.int .i64 0), (.str ⟨#[]⟩), (.str ⟨#[]⟩), (.int .i64 0)] [(0, 1, (.int .i64 64262)), (1, 1, (.int .i64 2)), (2, 1, (.str ⟨#[]⟩)), (3, 1, (.str ⟨#[97, 114, 114, 97, 121, 46, 110, 101, 119, 32, 97, 114, 114, 97, 121, 46, 110, 101, 119, 95, 100, 101, 102, 97, 117, 108, 116]⟩)), (4, 1, (.int .i64 4))]) fun t8_7 =>
 M.bind (bd [(.int .i64 0), (.int .i64 0), (.str ⟨#[]⟩), (.str ⟨#[]⟩), (.int .i64 0)] [(0, 1, (.int .i64 64264)), (1, 1, (.int .i64 1)), (2, 1, (.str ⟨#[]⟩)), (3, 1, (.str ⟨#[97, 114, 114, 97, 121, 46, 110, 101, 119, 95, 102, 105, 120, 101, 100]⟩)), (4, 1, (.int .i64 16))]) fun t9_8 =>
 M.bind (bd [(.int .i64 0), (.int .i64 0), (.str ⟨#[]⟩), (.str ⟨#[]⟩), (.int .i64 0)] [(0, 1, (.int .i64 64265)), (1, 1, (.int .i64 2)), (2, 1, (.str ⟨#[]⟩)), (3, 1, (.str ⟨#[97, 114, 114, 97, 121, 46, 110, 101, 119, 95, 100, 97, 116, 97, 32, 97, 114, 114, 97, 121, 46, 110, 101, 119, 95, 101, 108, 101, 109]⟩)), (4, 1, (.int .i64 5))]) fun t10_9 =>
 M.bind (bd [(.int .i64 0), (.int .i64 0), (.str ⟨#[]⟩), (.str ⟨#[]⟩), (.int .i64 0)] [(0, 1, (.int .i64 64267)), (1, 1, (.int .i64 4)), (2, 1, (.str ⟨#[]⟩)), (3, 1, (.str ⟨#[97, 114, 114, 97, 121, 46, 103, 101, 116, 32, 97, 114, 114, 97, 121, 46, 103, 101, 116, 95, 115, 32, 97, 114, 114, 97, 121, 46, 103, 101, 116, 95, 117, 32, 97, 114, 114, 97, 121, 46, 115, 101, 116]⟩)), (4, 1, (.int .i64 4))]) fun t11_10 =>
 M.bind (bd [(.int .i64 0), (.int .i64 0), (.str ⟨#[]⟩), (.str ⟨#[]⟩), (.int .i64 0)] [(0, 1, (.int .i64 64271)), (1, 1, (.int .i64 1)), (2, 1, (.str ⟨#[]⟩)), (3, 1, (.str ⟨#[97, 114, 114, 97, 121, 46, 108, 101, 110]⟩)), (4, 1, (.int .i64 1))]) fun t12_11 =>
 M.bind (bd [(.int .i64 0), (.int .i64 0), (.str ⟨#[]⟩), (.str ⟨#[]⟩), (.int .i64 0)] [(0, 1, (.int .i64 64272)), (1, 1, (.int .i64 1)), (2, 1, (.str ⟨#[]⟩)), (3, 1, (.str ⟨#[97, 114, 114, 97, 121, 46, 102, 105, 108, 108]⟩)), (4, 1, (.int .i64 4))]) fun t13_12 =>
 M.bind (bd [(.int .i64 0), (.int .i64 0), (.str ⟨#[]⟩), (.str ⟨#[]⟩), (.int .i64 0)] [(0, 1, (.int .i64 64273)), (1, 1, (.int .i64 3)), (2, 1, (.str ⟨#[]⟩)), (3, 1, (.str ⟨#[97, 114, 114, 97, 121, 46, 99, 111, 112, 121, 32, 97, 114, 114, 97, 121, 46, 105, 110, 105, 116, 95, 100, 97, 116, 97, 32, 97, 114, 114, 97, 121, 46, 105, 110, 105, 116, 95, 101, 108, 101, 109]⟩)), (4, 1, (.int .i64 5))]) fun t14_13 =>
 M.bind (bd [(.int .i64 0), (.int .i64 0), (.str ⟨#[]⟩), (.str ⟨#[]⟩), (.int .i64 0)] [(0, 1, (.int .i64 64276)), (1, 1, (.int .i64 4)), (2, 1, (.str ⟨#[]⟩)), (3, 1, (.str ⟨#[114, 101, 102, 46, 116, 101, 115, 116, 32, 114, 101, 102, 46, 116, 101, 115, 116, 95, 110, 117, 108, 108, 32, 114, 101, 102, 46, 99, 97, 115, 116, 32, 114, 101, 102, 46, 99, 97, 115, 116, 95, 110, 117, 108, 108]⟩)), (4, 1, (.int .i64 14))]) fun t15_14 =>
 M.bind (bd [(.int .i64 0), (.int .i64 0), (.str ⟨#[]⟩), (.str ⟨#[]⟩), (.int .i64 0)] [(0, 1, (.int .i64 64280)), (1, 1, (.int .i64 2)), (2, 1, (.str ⟨#[]⟩)), (3, 1, (.str ⟨#[98, 114, 95, 111, 110, 95, 99, 97, 115, 116, 32, 98, 114, 95, 111, 110, 95, 99, 97, 115, 116, 95, 102, 97, 105, 108]⟩)), (4, 1, (.int .i64 15))]) fun t16_15 =>
 M.bind (bd [(.int .i64 0), (.int .i64 0), (.str ⟨#[]⟩), (.str ⟨#[]⟩), (.int .i64 0)] [(0, 1, (.int .i64 64282)), (1, 1, (.int .i64 5)), (2, 1, (.str ⟨#[]⟩)), (3, 1, (.str ⟨#[97, 110, 121, 46, 99, 111, 110, 118, 101, 114, 116, 95, 101, 120, 116, 101, 114, 110, 32, 101, 120, 116, 101, 114, 110, 46, 99, 111, 110, 118, 101, 114, 116, 95, 97, 110, 121, 32, 114, 101, 102, 46, 105, 51, 49, 32, 105, 51, 49, 46, 103, 101, 116, 95, 115, 32, 105, 51, 49, 46, 103, 101, 116, 95, 117]⟩)), (4, 1, (.int .i64 1))]) fun t17_16 =>
 M.bind (bd [(.int .i64 0), (.int .i64 0), (.str ⟨#[]⟩), (.str ⟨#[]⟩), (.int .i64 0)] [(0, 1, (.int .i64 64512)), (1, 1, (.int .i64 8)), (2, 1, (.str ⟨#[]⟩)), (3, 1, (.str ⟨#[105, 51, 50, 46, 116, 114, 117, 110, 99, 95, 115, 97, 116, 95, 102, 51, 50, 95, 115, 32, 105, 51, 50, 46, 116, 114, 117, 110, 99, 95, 115, 97, 116, 95, 102, 51, 50, 95, 117, 32, 105, 51, 50, 46, 116, 114, 117, 110, 99, 95, 115, 97, 116, 95, 102, 54, 52, 95, 115, 32, 105, 51, 50, 46, 116, 114, 117, 110, 99, 95, 115, 97, 116, 95, 102, 54, 52, 95, 117, 32, 105, 54, 52, 46, 116, 114, 117, 110, 99, 95, 115, 97, 116, 95, 102, 51, 50, 95, 115, 32, 105, 54, 52, 46, 116, 114, 117, 110, 99, 95, 115, 97, 116, 95, 102, 51, 50, 95, 117, 32, 105, 54, 52, 46, 116, 114, 117, 110, 99, 95, 115, 97, 116, 95, 102, 54, 52, 95, 115, 32, 105, 54, 52, 46, 116, 114, 117, 110, 99, 95, 115, 97, 116, 95, 102, 54, 52, 95, 117]⟩)), (4, 1, (.int .i64 1))]) fun t18_17 =>
 M.bind (bd [(.int .i64 0), (.int .i64 0), (.str ⟨#[]⟩), (.str ⟨#[]⟩), (.int .i64 0)] [(0, 1, (.int .i64 64520)), (1, 1, (.int .i64 1)), (2, 1, (.str ⟨#[]⟩)), (3, 1, (.str ⟨#[109, 101, 109, 111, 114, 121, 46, 105, 110, 105, 116]⟩)), (4, 1, (.int .i64 5))]) fun t19_18 =>
 M.bind (bd [(.int .i64 0), (.int .i64 0), (.str ⟨#[]⟩), (.str ⟨#[]⟩), (.int .i64 0)] [(0, 1, (.int .i64 64521)), (1, 1, (.int .i64 1)), (2, 1, (.str ⟨#[]⟩)), (3, 1, (.str ⟨#[100, 97, 116, 97, 46, 100, 114, 111, 112]⟩)), (4, 1, (.int .i64 4))]) fun t20_19 =>
 M.bind (bd [(.int .i64 0), (.int .i64 0), (.str ⟨#[]⟩), (.str ⟨#[]⟩), (.int .i64 0)] [(0, 1, (.int .i64 64522)), (1, 1, (.int .i64 1)), (2, 1, (.str ⟨#[]⟩)), (3, 1, (.str ⟨#[109, 101, 109, 111, 114, 121, 46, 99, 111, 112, 121]⟩)), (4, 1, (.int .i64 5))]) fun t21_20 =>
 M.bind (bd [(.int .i64 0), (.int .i64 0), (.str ⟨#[]⟩), (.str ⟨#[]⟩), (.int .i64 0)] [(0, 1, (.int .i64 64523)), (1, 1, (.int .i64 1)), (2, 1, (.str ⟨#[]⟩)), (3, 1, (.str ⟨#[109, 101, 109, 111, 114, 121, 46, 102, 105, 108, 108]⟩)), (4, 1, (.int .i64 4))]) fun t22_21 =>
 M.bind (bd [(.int .i64 0), (.int .i64 0), (.str ⟨#[]⟩), (.str ⟨#[]⟩), (.int .i64 0)] [(0, 1, (.int .i64 64524)), (1, 1, (.int .i64 1)), (2, 1, (.str ⟨#[]⟩)), (3, 1, (.str ⟨#[116, 97, 98, 108, 101, 46, 105, 110, 105, 116]⟩)), (4, 1, (.int .i64 5))]) fun t23_22 =>
 M.bind (bd [(.int .i64 0), (.int .i64 0), (.str ⟨#[]⟩), (.str ⟨#[]⟩), (.int .i64 0)] [(0, 1, (.int .i64 64525)), (1, 1, (.int .i64 1)), (2, 1, (.str ⟨#[]⟩)), (3, 1, (.str ⟨#[101, 108, 101, 109, 46, 100, 114, 111, 112]⟩)), (4, 1, (.int .i64 4))]) fun t24_23 =>
 M.bind (bd [(.int .i64 0), (.int .i64 0), (.str ⟨#[]⟩), (.str ⟨#[]⟩), (.int .i64 0)] [(0, 1, (.int .i64 64526)), (1, 1, (.int .i64 1)), (2, 1, (.str ⟨#[]⟩)), (3, 1, (.str ⟨#[116, 97, 98, 108, 101, 46, 99, 111, 112, 121]⟩)), (4, 1, (.int .i64 5))]) fun t25_24 =>
 M.bind (bd [(.int .i64 0), (.int .i64 0), (.str ⟨#[]⟩), (.str ⟨#[]⟩), (.int .i64 0)] [(0, 1, (.int .i64 64527)), (1, 1, (.int .i64 3)), (2, 1, (.str ⟨#[]⟩)), (3, 1, (.str ⟨#[116, 97, 98, 108, 101, 46, 103, 114, 111, 119, 32, 116, 97, 98, 108, 101, 46, 115, 105, 122, 101, 32, 116, 97, 98, 108, 101, 46, 102, 105, 108, 108]⟩)), (4, 1, (.int .i64 4))]) fun t26_25 =>
 M.bind (bs true (some 5) [t1_0, t2_1, t3_2, t4_3, t5_4, t6_5, t7_6, t8_7, t9_8, t10_9, t11_10, t12_11, t13_12, t14_13, t15_14, t16_15, t17_16, t18_17, t19_18, t20_19, t21_20, t22_21, t23_22, t24_23, t25_24, t26_25]) fun t27_26 =>
 resT t27_26 (M.pure t27_26)) := by
 rw [C, u03 _ _ rfl]; kernel_rfl
noncomputable def u55 (v0 v2 v3 : PV) : M PV := atP P X u7f [1, 1, 0, 0] (mkEnv 19 0 [(0, v0), (2, v2), (3, v3)])
theorem u7z (v0 v2 v3 : PV) : u55 v0 v2 v3 =
 M.bind (bi .gtr .none (strip v0) (.int .u64 127)) fun t5_0 =>
 condM t5_0
 (M.bind (cv (.int .u8) true (strip v0)) fun t10_1 =>
 M.bind (bi .or .none t10_1 (.int .u8 128)) fun t11_2 =>
 M.bind (bs true none [t11_2]) fun t12_3 =>
 M.bind (ap true 1 1 v3 t12_3) fun t13_4 =>
 M.bind (bi .shr .none (strip v0) (.int .u64 7)) fun t7_5 =>
 u55 t7_5 v2 t13_4)
 (M.bind (cv (.int .u8) true (strip v0)) fun t16_6 =>
 M.bind (bs true none [t16_6]) fun t17_7 =>
 M.bind (ap true 1 1 v3 t17_7) fun t18_8 =>
 resT t18_8 (M.pure t18_8)) :=
 (u0j P X _ _ _).trans (by kernel_rfl)
theorem umz (a0 : PV) : C u7f [a0] =
 trunc (u55 a0 (.slice false true 0 []) (.slice false true 0 [])) := by
 rw [C, u03 _ _ rfl]; kernel_rfl
theorem uha (a0 : PV) : C u5l [a0] =
 trunc (M.bind (al [(.slice false true 0 [])]) fun t2_0 =>
 M.bind (al [(.int .i64 0)]) fun t3_1 =>
 M.bind (mf u7g [] [t2_0, t3_1]) fun t5_2 =>
 guardM (isPtr t2_0 && isPtr t3_1) <| deferM CD t5_2 []
 (M.bind (bd [(.slice false true 0 [])] []) fun t6_3 =>
 M.bind (bx 1 t6_3) fun t7_4 =>
 M.bind (callV P C (strip a0) [(strip (strip t7_4))]) fun t10_5 =>
 M.bind (nc P (strip t7_4)) fun t12_6 =>
 M.bind (fa 0 t12_6) fun t13_7 =>
 M.bind (ld none true t13_7) fun t14_8 =>
 M.bind (st 1 true t2_0 t14_8) fun _ =>
 M.bind (st 1 false t3_1 (.int .i64 0)) fun _ =>
 M.bind (ld none true t2_0) fun t0_11 => guardM (!isTup t0_11) (M.bind (ld none true t3_1) fun t0_12 => guardM (!isTup t0_12) (M.pure (.tup [t0_11, t0_12]))))
 (M.bind (ld none true t2_0) fun t0_13 => guardM (!isTup t0_13) (M.bind (ld none true t3_1) fun t0_14 => guardM (!isTup t0_14) (M.pure (.tup [t0_13, t0_14]))))) := by
 rw [C, u03 _ _ rfl]; kernel_rfl
theorem u8v (a0 a1 : PV) : C u3e [a0, a1] =
 trunc (M.bind (fa 1 a1) fun t4_0 =>
 M.bind (ld (some 3) false t4_0) fun t5_1 =>
 M.bind (bd [(.int .i64 0), (.bool false), (.int .i64 0)] []) fun t6_2 =>
 M.bind (bi .eql (.struct [.int, .bool, .int]) t5_1 t6_2) fun t7_3 =>
 M.bind (fa 0 a1) fun t13_4 =>
 M.bind (ld none false t13_4) fun t14_5 =>
 M.bind (bi .geq .none t14_5 (.int .i64 0)) fun t15_6 =>
 condM t15_6
 (M.bind (gd (strip (strip t7_3)) true (fa 0 a1)) fun t19_7 =>
 M.bind (gd (strip (strip t7_3)) true (ld none false t19_7)) fun t20_8 =>
 M.bind (gd (strip (strip t7_3)) true (C u6d [(strip t20_8)])) fun t21_9 =>
 M.bind (pick (strip (strip t7_3)) t21_9 (.bool false)) fun t22_10 =>
 M.bind (C u1m [(strip (strip a0)), (strip t22_10)]) fun t23_11 =>
 M.bind (fa 0 a1) fun t25_12 =>
 M.bind (ld none false t25_12) fun t26_13 =>
 M.bind (C u28 [(strip t26_13)]) fun t27_14 =>
 M.bind (nc P (strip a0)) fun t28_15 =>
 M.bind (fa 0 t28_15) fun t29_16 =>
 M.bind (st 1 true t29_16 t27_14) fun _ =>
 M.pure (.tup []))
 (M.bind (fa 0 a1) fun t31_18 =>
 M.bind (ld none false t31_18) fun t32_19 =>
 M.bind (bi .lss .none t32_19 (.int .i64 (-1))) fun t33_20 =>
 condM t33_20
 (M.bind (C u1m [(strip (strip a0)), (.bool false)]) fun t35_21 =>
 M.pure (.tup []))
 (condM t7_3
 (M.bind (C u24 [(strip (strip a0)), (.int .u8 64)]) fun t39_22 =>
 M.pure (.tup []))
 (M.bind (fa 1 a1) fun t9_23 =>
 M.bind (ld (some 3) false t9_23) fun t10_24 =>
 M.bind (C u5f [(strip (strip a0)), (strip t10_24)]) fun t11_25 =>
 M.pure (.tup []))))) := by
 rw [C, u03 _ _ rfl]; kernel_rfl
theorem u8i (a0 a1 : PV) : C u1m [a0, a1] =
 trunc (M.bind (un .not (strip a1)) fun t5_0 =>
 condM t5_0
 (M.bind (bd [(.int .i64 0), (.int .i64 0)] [(0, 1, (.int .i64 0)), (1, 1, (.int .i64 4))]) fun t6_1 =>
 M.bind (mi u0b t6_1) fun t7_2 =>
 M.bind (pn t7_2) fun _ =>
 M.pure (.tup []))
 (M.pure (.tup []))) := by
 rw [C, u03 _ _ rfl]; kernel_rfl
theorem ujn (a0 : PV) : C u6d [a0] =
 trunc (M.bind (bi .geq .none (strip a0) (.int .i64 0)) fun t4_0 =>
 M.bind (gd (strip t4_0) true (M.pure (strip a0))) fun t6_1 =>
 M.bind (gd (strip t4_0) true (bi .leq .none t6_1 (.int .i64 2147483647))) fun t7_2 =>
 M.bind (pick (strip t4_0) t7_2 (.bool false)) fun t8_3 =>
 resT t8_3 (M.pure t8_3)) := by
 rw [C, u03 _ _ rfl]; kernel_rfl
noncomputable def u54 (v0 v2 v3 : PV) : M PV := atP P X u28 [1, 1, 0, 0] (mkEnv 24 0 [(0, v0), (2, v2), (3, v3)])
theorem u7x (v0 v2 v3 : PV) : u54 v0 v2 v3 =
 M.bind (bi .lss .none (strip v0) (.int .i64 (-64))) fun t5_0 =>
 M.bind (gd (strip t5_0) false (M.pure (strip v0))) fun t7_1 =>
 M.bind (gd (strip t5_0) false (bi .gtr .none t7_1 (.int .i64 63))) fun t8_2 =>
 M.bind (pick (strip t5_0) (.bool true) t8_2) fun t9_3 =>
 condM t9_3
 (M.bind (cv (.int .u8) true (strip v0)) fun t14_4 =>
 M.bind (bi .or .none t14_4 (.int .u8 128)) fun t15_5 =>
 M.bind (bs true none [t15_5]) fun t16_6 =>
 M.bind (ap true 1 1 v3 t16_6) fun t17_7 =>
 M.bind (bi .shr .none (strip v0) (.int .u64 7)) fun t11_8 =>
 u54 t11_8 v2 t17_7)
 (M.bind (cv (.int .u8) true (strip v0)) fun t20_9 =>
 M.bind (bi .and .none t20_9 (.int .u8 127)) fun t21_10 =>
 M.bind (bs true none [t21_10]) fun t22_11 =>
 M.bind (ap true 1 1 v3 t22_11) fun t23_12 =>
 resT t23_12 (M.pure t23_12)) :=
 (u0j P X _ _ _).trans (by kernel_rfl)
theorem unb (a0 : PV) : C u28 [a0] =
 trunc (u54 a0 (.slice false true 0 []) (.slice false true 0 [])) := by
 rw [C, u03 _ _ rfl]; kernel_rfl
theorem ud7 (a0 a1 : PV) : C u24 [a0, a1] =
 trunc (M.bind (nc P (strip a0)) fun t6_0 =>
 M.bind (fa 0 t6_0) fun t7_1 =>
 M.bind (ld none true t7_1) fun t8_2 =>
 M.bind (bs true none [(strip a1)]) fun t10_3 =>
 M.bind (ap true 1 1 t8_2 t10_3) fun t11_4 =>
 M.bind (nc P (strip a0)) fun t12_5 =>
 M.bind (fa 0 t12_5) fun t13_6 =>
 M.bind (st 1 true t13_6 t11_4) fun _ =>
 M.pure (.tup [])) := by
 rw [C, u03 _ _ rfl]; kernel_rfl
noncomputable def u4k (v0 v3 : PV) : M PV := atP P X u5f [1, 1, 1] (mkEnv 49 0 [(0, v0), (3, v3)])
theorem u93 (v0 v3 : PV) : u4k v0 v3 =
 M.bind (fa 2 v3) fun t46_0 =>
 M.bind (ld none false t46_0) fun t47_1 =>
 M.bind (C u4r [(strip (strip v0)), (strip t47_1)]) fun t48_2 =>
 M.pure (.tup []) :=
 (u0j P X _ _ _).trans (by kernel_rfl)
theorem ue6 (a0 a1 : PV) : C u5f [a0, a1] =
 trunc (M.bind (bx 3 a1) fun t3_0 =>
 M.bind (fa 0 t3_0) fun t4_1 =>
 M.bind (ld none false t4_1) fun t5_2 =>
 M.bind (bi .neq .none t5_2 (.int .i64 5)) fun t6_3 =>
 condM t6_3
 (M.bind (fa 0 t3_0) fun t8_4 =>
 M.bind (ld none false t8_4) fun t9_5 =>
 M.bind (bi .geq .none t9_5 (.int .i64 1)) fun t10_6 =>
 M.bind (gd (strip t10_6) true (fa 0 t3_0)) fun t12_7 =>
 M.bind (gd (strip t10_6) true (ld none false t12_7)) fun t13_8 =>
 M.bind (gd (strip t10_6) true (bi .leq .none t13_8 (.int .i64 4))) fun t14_9 =>
 M.bind (pick (strip t10_6) t14_9 (.bool false)) fun t15_10 =>
 M.bind (gd (strip t15_10) true (fa 1 t3_0)) fun t17_11 =>
 M.bind (gd (strip t15_10) true (ld none false t17_11)) fun t18_12 =>
 M.bind (gd (strip t15_10) true (un .not t18_12)) fun t19_13 =>
 M.bind (pick (strip t15_10) t19_13 (.bool false)) fun t20_14 =>
 M.bind (gd (strip t20_14) true (fa 2 t3_0)) fun t22_15 =>
 M.bind (gd (strip t20_14) true (ld none false t22_15)) fun t23_16 =>
 M.bind (gd (strip t20_14) true (bi .eql .none t23_16 (.int .i64 0))) fun t24_17 =>
 M.bind (pick (strip t20_14) t24_17 (.bool false)) fun t25_18 =>
 M.bind (C u1m [(strip (strip a0)), (strip t25_18)]) fun t26_19 =>
 M.bind (fa 0 t3_0) fun t28_20 =>
 M.bind (ld none false t28_20) fun t29_21 =>
 M.bind (cv (.int .u8) true t29_21) fun t30_22 =>
 M.bind (bi .sub .none (.int .u8 128) t30_22) fun t31_23 =>
 M.bind (C u24 [(strip (strip a0)), (strip t31_23)]) fun t32_24 =>
 M.pure (.tup []))
 (M.bind (fa 1 t3_0) fun t34_25 =>
 M.bind (ld none false t34_25) fun t35_26 =>
 M.bind (un .not t35_26) fun t36_27 =>
 condM t36_27
 (M.bind (C u24 [(strip (strip a0)), (.int .u8 100)]) fun t38_28 =>
 u4k a0 t3_0)
 (M.bind (fa 2 t3_0) fun t40_29 =>
 M.bind (ld none false t40_29) fun t41_30 =>
 M.bind (bi .geq .none t41_30 (.int .i64 0)) fun t42_31 =>
 condM t42_31
 (M.bind (C u24 [(strip (strip a0)), (.int .u8 99)]) fun t44_32 =>
 u4k a0 t3_0)
 (u4k a0 t3_0)))) := by
 rw [C, u03 _ _ rfl]; kernel_rfl
theorem ubb (a0 : PV) : C u3p [a0] =
 trunc (M.bind (bx 3 a0) fun t1_0 =>
 M.bind (mf u42 [] [t1_0]) fun t4_1 =>
 M.bind (C u5l [(strip t4_1)]) fun t5_2 =>
 M.bind (ex 0 t5_2) fun t6_3 =>
 M.bind (ex 1 (tupDrop 0 t5_2)) fun t7_4 =>
 resT t6_3 (resT t7_4 (M.pure (.tup [t6_3, t7_4])))) := by
 rw [C, u03 _ _ rfl]; kernel_rfl
theorem uac (a0 : PV) : C u36 [a0] =
 trunc (M.bind (bx 1 a0) fun t1_0 =>
 M.bind (mf u3w [] [t1_0]) fun t4_1 =>
 M.bind (C u5l [(strip t4_1)]) fun t5_2 =>
 M.bind (ex 0 t5_2) fun t6_3 =>
 M.bind (ex 1 (tupDrop 0 t5_2)) fun t7_4 =>
 resT t6_3 (resT t7_4 (M.pure (.tup [t6_3, t7_4])))) := by
 rw [C, u03 _ _ rfl]; kernel_rfl
theorem uj0 (a0 : PV) : C u70 [a0] =
 trunc (M.bind (cv (.int .u64) true (strip a0)) fun t4_0 =>
 M.bind (C u8j [(strip t4_0), (.int .i64 4)]) fun t5_1 =>
 resT t5_1 (M.pure t5_1)) := by
 rw [C, u03 _ _ rfl]; kernel_rfl
theorem uja (a0 : PV) : C u72 [a0] =
 trunc (M.bind (C u8j [(strip (strip a0)), (.int .i64 8)]) fun t4_0 =>
 resT t4_0 (M.pure t4_0)) := by
 rw [C, u03 _ _ rfl]; kernel_rfl
end Go.Proofs.YthidcpkcfoldmaaGreat.Pi.Q
