/- What the law rests on, part 3 of 6: a reading of the program's code over told data, and what it comes to. -/
import Derived.Test.YthidcpkcfoldmaaGreatPiR1
set_option linter.unusedVariables false
set_option linter.unusedSimpArgs false
set_option maxRecDepth 100000
namespace Go.Proofs.YthidcpkcfoldmaaGreat.Pi
variable {P : Program} {X : ExtT} {H : Heap}
def XSound (P : Program) (X : ExtT) : Prop :=
  ∀ f m, X f = some m → ∀ args H out, m args H = some out → u8w P f = true ∧ ∀ g w cargs, Inv g H w → ArgsOk g args cargs → Calls P f cargs w (u85 g w out)
theorem usj (hX : XSound P X) (n : Nat) : CSound P (sem P X n).C ∧ unz P (sem P X n).CD := by
  induction n using Nat.strongRecOn with
  | _ n ih =>
    cases n with
    | zero => exact ⟨fun f args H out h => (u09 (H := H) h).elim, fun rv f args H out h => (u09 (H := H) h).elim⟩
    | succ n =>
      have hn := ih n (Nat.lt_succ_self n)
      refine ⟨fun f args H out h => ?_, fun rv f args H out h => un0 hn.1 h⟩
      have h : (match X f with | some m => m args | none => fnDen P (sem P X n).C (sem P X n).CD (sem P X n).L f args) H = some out := h
      cases hf : X f with
      | some m => rw [hf] at h; exact hX f m hf args H out h
      | none =>
        rw [hf] at h
        exact uoa hn.1 hn.2 (fun fn => us6 n (fun m hm => (ih m (by omega)).1) _ _ _ (fun m hm r f a => ut4 m r f a (by omega)) n (Nat.le_refl n)) h
theorem uoh (hX : XSound P X) : CSound P (callW P X) := by
  intro f args H out h
  obtain ⟨n, hn⟩ := ((ugz P X f args).lim H out).mp h
  exact (usj hX n).1 f args H out hn
theorem noX : XSound P (fun _ => none) := fun f m h => by cases h
end Go.Proofs.YthidcpkcfoldmaaGreat.Pi
namespace Go.Proofs.YthidcpkcfoldmaaGreat.Pi
noncomputable def kAt (c : Ctx) (L : LoopT) : List Nat → List Tmp → Code → K → List Tmp × Code × K
  | [], af, co, k => (af, co, k)
  | 0 :: p, af, .seq a b, k => kAt c L p ((rw b).1 ++ af) a fun
    | .normal, env' => bif c.rc.isNone && joinB a then L af b (keep ((rw b).1 ++ af) env') k else den c L af b env' k
    | e, env' => k e env'
  | _ :: p, af, .seq a b, k => kAt c L p af b k
  | 0 :: p, af, .cond _ a b, k => kAt c L p af a k
  | _ :: p, af, .cond _ a b, k => kAt c L p af b k
  | _ :: p, af, .block id b, k => kAt c L p af b fun
    | .exit i, env' => bif i == id then k .normal env' else k (.exit i) env'
    | e, env' => k e env'
  | _ :: p, af, .loop b, k => kAt c L p (alive af b) b fun
    | .normal, env' => L af (.loop b) (keep (alive af b) env') k
    | e, env' => k e env'
  | _, af, co, k => (af, co, k)
section
variable (P : Program) (X : ExtT)
noncomputable def kOf (f : FuncId) (p : List Nat) : List Tmp × Code × K :=
  match P.funcs[f]? with
  | some fn => match fn.body with
    | some b => kAt (ctxW P X none (protOf fn) (resM P fn)) (loopW P X none (protOf fn) (resM P fn)) p (ue8 fn) b fun
      | .exit _, _ => M.fail
      | _, env => resM P fn env
    | none => ([], .skip, fun _ _ => M.fail)
  | none => ([], .skip, fun _ _ => M.fail)
noncomputable def ctxOf (f : FuncId) : Ctx :=
  match P.funcs[f]? with
  | some fn => ctxW P X none (protOf fn) (resM P fn)
  | none => ctxW P X none [] (fun _ => M.fail)
noncomputable def atP (f : FuncId) (p : List Nat) (env : Env) : M PV :=
  loopW P X none (ctxOf P X f).prot (ctxOf P X f).res (kOf P X f p).1 (kOf P X f p).2.1 env (kOf P X f p).2.2
noncomputable def stepP (f : FuncId) (p : List Nat) (env : Env) : M PV :=
  go1 (ctxW P X none (ctxOf P X f).prot (ctxOf P X f).res) (loopW P X none (ctxOf P X f).prot (ctxOf P X f).res) (kOf P X f p).1 (kOf P X f p).2.1 env (kOf P X f p).2.2
theorem u0k (f : FuncId) (p : List Nat) (env : Env) : atP P X f p env = stepP P X f p env := uwp P X none _ _ _ _ _ _
def mkEnv : Nat → Nat → List (Nat × PV) → Env
  | 0, _, _ => []
  | n + 1, i, (j, v) :: r => bif i == j then v :: mkEnv n (i + 1) r else .undef :: mkEnv n (i + 1) ((j, v) :: r)
  | n + 1, i, [] => .undef :: mkEnv n (i + 1) []
end
end Go.Proofs.YthidcpkcfoldmaaGreat.Pi
namespace Go.Proofs.YthidcpkcfoldmaaGreat.Pi
theorem nrfl {γ : Sort _} {a b : γ} (h : a = b) : a = b := h
variable {α β : Type} {H : Heap} {k : IntKind} {a b n m : Int} {x y : PV} {ek : EqK}
@[simp] theorem ul5 : strip (.int k n) = .int k n := nrfl rfl
@[simp] theorem uj9 {t : Bool} : strip (.bool t) = .bool t := nrfl rfl
@[simp] theorem ul6 {s : ByteArray} : strip (.str s) = .str s := nrfl rfl
@[simp] theorem ugp {o z : Bool} {sz : Nat} {xs : List PV} : strip (.slice o z sz xs) = .slice false z sz xs := nrfl rfl
@[simp] theorem ukx {i o : Nat} : strip (.ptr i o) = .ptr i o := nrfl rfl
@[simp] theorem ulh {cs : List PV} : strip (.agg cs) = .agg cs := nrfl rfl
@[simp] theorem ujg {cs : List PV} : strip (.elem cs) = .elem cs := nrfl rfl
@[simp] theorem um4 : strip .nil = .nil := nrfl rfl
@[simp] theorem ucp : strip .niliface = .niliface := nrfl rfl
@[simp] theorem uhp {t : TypeId} {v : PV} : strip (.iface t v) = .iface t v := nrfl rfl
@[simp] theorem uq6 {f : FuncId} {u v : List PV} : strip (.fn f u v) = .fn f u v := nrfl rfl
@[simp] theorem uhc : strip .undef = .undef := nrfl rfl
@[simp] theorem umy {vs : List PV} : strip (.tup vs) = .tup (vs.map stripC) := nrfl rfl
@[simp] theorem uin : stripC (.int k n) = .int k n := nrfl rfl
@[simp] theorem uhm {t : Bool} : stripC (.bool t) = .bool t := nrfl rfl
@[simp] theorem uif {s : ByteArray} : stripC (.str s) = .str s := nrfl rfl
@[simp] theorem uf7 {o z : Bool} {sz : Nat} {xs : List PV} : stripC (.slice o z sz xs) = .slice false z sz xs := nrfl rfl
@[simp] theorem uii {i o : Nat} : stripC (.ptr i o) = .ptr i o := nrfl rfl
@[simp] theorem uj7 {cs : List PV} : stripC (.agg cs) = .agg cs := nrfl rfl
@[simp] theorem uic : stripC .nil = .nil := nrfl rfl
@[simp] theorem uau : stripC .niliface = .niliface := nrfl rfl
@[simp] theorem uf2 {t : TypeId} {v : PV} : stripC (.iface t v) = .iface t v := nrfl rfl
@[simp] theorem ulp {f : FuncId} {u v : List PV} : stripC (.fn f u v) = .fn f u v := nrfl rfl
@[simp] theorem bi_add : bi .add ek (.int k a) (.int k b) = M.pure (.int k (k.wrap (a + b))) := nrfl (by cases k <;> rfl)
@[simp] theorem bi_sub : bi .sub ek (.int k a) (.int k b) = M.pure (.int k (k.wrap (a - b))) := nrfl (by cases k <;> rfl)
@[simp] theorem bi_mul : bi .mul ek (.int k a) (.int k b) = M.pure (.int k (k.wrap (a * b))) := nrfl (by cases k <;> rfl)
@[simp] theorem bi_eql : bi .eql ek (.int k a) (.int k b) = M.pure (.bool (a == b)) := nrfl (by cases k <;> rfl)
@[simp] theorem bi_neq : bi .neq ek (.int k a) (.int k b) = M.pure (.bool (a != b)) := nrfl (by cases k <;> rfl)
@[simp] theorem bi_lss : bi .lss ek (.int k a) (.int k b) = M.pure (.bool (decide (a < b))) := nrfl (by cases k <;> rfl)
@[simp] theorem bi_leq : bi .leq ek (.int k a) (.int k b) = M.pure (.bool (decide (a ≤ b))) := nrfl (by cases k <;> rfl)
@[simp] theorem bi_gtr : bi .gtr ek (.int k a) (.int k b) = M.pure (.bool (decide (a > b))) := nrfl (by cases k <;> rfl)
@[simp] theorem bi_geq : bi .geq ek (.int k a) (.int k b) = M.pure (.bool (decide (a ≥ b))) := nrfl (by cases k <;> rfl)
@[simp] theorem uo8 {s t : ByteArray} : bi .eql ek (.str s) (.str t) = M.pure (.bool (s.toList == t.toList)) := nrfl rfl
@[simp] theorem uvp {s t : ByteArray} : bi .neq ek (.str s) (.str t) = M.pure (.bool (!(s.toList == t.toList))) := nrfl rfl
@[simp] theorem uup {s t : Bool} : bi .eql .bool (.bool s) (.bool t) = M.pure (.bool (s == t)) := nrfl rfl
@[simp] theorem utt {s t : Bool} : bi .neq .bool (.bool s) (.bool t) = M.pure (.bool (!(s == t))) := nrfl rfl
@[simp] theorem un_not {t : Bool} : un .not (.bool t) = M.pure (.bool (!t)) := nrfl rfl
@[simp] theorem ulu {o z : Bool} {sz : Nat} {xs : List PV} : lnL (.slice o z sz xs) = M.pure (.int .i64 xs.length) := nrfl rfl
@[simp] theorem ubg {s : ByteArray} : lnS (.str s) = M.pure (.int .i64 s.size) := nrfl rfl
@[simp] theorem mx_int : mx (.int k a) (.int k b) = M.pure (.int k (if b > a then b else a)) := nrfl (by cases k <;> rfl)
@[simp] theorem mn_int : mn (.int k a) (.int k b) = M.pure (.int k (if b < a then b else a)) := nrfl (by cases k <;> rfl)
@[simp] theorem cv_int {o : Bool} {j : IntKind} : cv (.int k) o (.int j n) = M.pure (.int k (k.wrap n)) := nrfl rfl
@[simp] theorem v00d {v : PV} {r : List PV} : ex 0 (.tup (v :: r)) = M.pure v := nrfl rfl
@[simp] theorem v00e {u v : PV} {r : List PV} : ex 1 (.tup (u :: v :: r)) = M.pure v := nrfl rfl
@[simp] theorem v00f {t u v : PV} {r : List PV} : ex 2 (.tup (t :: u :: v :: r)) = M.pure v := nrfl rfl
theorem ubz {m : M PV} {v : PV} (h : m H = some (.ok v H)) : trunc m H = some (.ok v H) := by
  unfold trunc
  rw [h]
  cases v.low H.length <;> simp
end Go.Proofs.YthidcpkcfoldmaaGreat.Pi
namespace Go.Proofs.YthidcpkcfoldmaaGreat.Pi
variable {P : Program} {X : ExtT}
def gOf (im : Nat → Nat → Option Value) : G := ⟨[], im, fun _ => none⟩
theorem uy6 {im : Nat → Nat → Option Value} {w : World} (him : ∀ b o v, im b o = some v → w.cell? ⟨b, o, none⟩ = some v) : Inv (gOf im) [] w :=
  ⟨rfl, fun i j b h => by simp [gOf] at h, him, fun b L s h => by simp [gOf] at h, fun id b y h => by simp [gOf] at h⟩
theorem walk_law (hX : XSound P X) {f : FuncId} {args : List PV} {H' : Heap} (h : callW P X f args [] = some (.ok (.bool true) H')) {im : Nat → Nat → Option Value} {w : World} {cargs : Array Value}
    (him : ∀ b o v, im b o = some v → w.cell? ⟨b, o, none⟩ = some v) (ha : ArgsOk (gOf im) args cargs) : Calls P f cargs w fun e w' => e = .returned (.bool true) ∧ RowKit.Below w.heap.size w w' := by
  obtain ⟨_, hs⟩ := uoh hX f args [] _ h
  refine (hs (gOf im) w cargs (uy6 him) ha).mono ?_
  rintro e w' ⟨g', hgl, hgr, cv, rfl, hi, hr⟩
  have hv : cv = .bool true := by
    cases hr with
    | one hr => cases hr with
      | pure hr => cases hr with
        | flat hr => cases hr; rfl
  subst hv
  exact ⟨rfl, hgl.os, hgl.tape, hgl.output, hgl.size, fun k hk => (hgl.old k hk rfl (by simp [gOf])).2.2⟩
end Go.Proofs.YthidcpkcfoldmaaGreat.Pi
namespace Go.Proofs.YthidcpkcfoldmaaGreat.Pi
variable {α β : Type} {H : Heap} {k j : IntKind} {a b n m : Int} {x y : PV} {ek : EqK}
def resT (v : PV) (m : M PV) : M PV := bif isTup v then M.fail else m
def hget (H : Heap) (id : Nat) : Option Box := H[id]?
def hset (H : Heap) (id : Nat) (b : Box) : Heap := H.set id b
def hadd (H : Heap) (L : List Box) : Heap := H ++ L
def hcut (H : Heap) (n : Nat) : Heap := H.take n
abbrev hlen (H : Heap) : Nat := List.length H
def run (m : M α) (H : Heap) : Option (Out α) := m H
def bindR (r : Option (Out α)) (f : α → M β) : Option (Out β) :=
  match r with
  | none => none
  | some (.ok v H) => run (f v) H
  | some (.pan v H) => some (.pan v H)
def truncR (H : Heap) (r : Option (Out PV)) : Option (Out PV) :=
  match r with
  | none => none
  | some (.ok v H') => some (.ok v (bif v.low H.length then hcut H' H.length else H'))
  | some (.pan v H') => bif v.low H.length then some (.pan v (hcut H' H.length)) else none
noncomputable def nbR (H : Heap) (r : Option (Out α)) (f : α → M β) : Option (Out β) := nb (fun _ => r) f H
@[congr] theorem v003 {r r' : Option (Out α)} {f : α → M β} (h : r = r') : bindR r f = bindR r' f := by rw [h]
@[congr] theorem v00c {r r' : Option (Out α)} {f : α → M β} (h : r = r') : nbR H r f = nbR H r' f := by rw [h]
@[congr] theorem v004 {c c' : PV} {x y : M α} (h : c = c') : condM c x y = condM c' x y := by rw [h]
@[congr] theorem uy3 {c c' : Bool} {x : M α} (h : c = c') : guardM c x = guardM c' x := by rw [h]
@[congr] theorem v008 {c c' : PV} {x : M PV} (h : c = c') : resT c x = resT c' x := by rw [h]
theorem run_bind {m : M α} {f : α → M β} : run (M.bind m f) H = bindR (run m H) f := nrfl rfl
theorem uph {f : α → M β} {v : α} {H : Heap} : bindR (some (.ok v H)) f = run (f v) H := nrfl rfl
theorem uj5 {f : α → M β} : bindR none f = none := nrfl rfl
theorem umg {f : α → M β} {v : PV} {H : Heap} : bindR (some (.pan v H)) f = some (.pan v H) := nrfl rfl
theorem umo {c : Prop} [Decidable c] {r r' : Option (Out α)} {f : α → M β} : bindR (if c then r else r') f = if c then bindR r f else bindR r' f := by split <;> rfl
theorem run_nb {m : M α} {f : α → M β} : run (nb m f) H = nbR H (run m H) f := nrfl rfl
theorem nbR_ok {f : α → M β} {v : α} : nbR H (some (.ok v H)) f = run (f v) H := by simp [nbR, nb, run]
theorem uvt {c : Prop} [Decidable c] {r r' : Option (Out α)} {f : α → M β} : nbR H (if c then r else r') f = if c then nbR H r f else nbR H r' f := by split <;> rfl
theorem ui4 {m : M PV} : run (trunc m) H = truncR H (run m H) := nrfl rfl
theorem uj3 {c : Prop} [Decidable c] {r r' : Option (Out PV)} : truncR H (if c then r else r') = if c then truncR H r else truncR H r' := by split <;> rfl
theorem ug4 : truncR H none = none := nrfl rfl
theorem umn {v : PV} {H' : Heap} : truncR H (some (.ok v H')) = some (.ok v (if v.low H.length = true then hcut H' H.length else H')) := by
  show some (Out.ok v (bif v.low H.length then hcut H' H.length else H')) = _
  cases v.low H.length <;> rfl
theorem ued {v : PV} {H' : Heap} : truncR H (some (.pan v H')) = if v.low H.length = true then some (.pan v (hcut H' H.length)) else none := by
  show (bif v.low H.length then some (Out.pan v (hcut H' H.length)) else none) = _
  cases v.low H.length <;> rfl
theorem umb {c : Bool} {m : M α} : run (guardM c m) H = if c = true then run m H else none := by cases c <;> rfl
theorem uom {v : PV} {m : M PV} : run (resT v m) H = if isTup v = true then none else run m H := by unfold resT; cases isTup v <;> rfl
theorem upq {c : Bool} {x y : M α} : run (condM (.bool c) x y) H = if c = true then run x H else run y H := by cases c <;> rfl
theorem usd {c : Bool} {m : M PV} : run (gd (.bool c) true m) H = if c = true then run m H else some (.ok (.tup []) H) := by cases c <;> rfl
theorem uur {c : Bool} {m : M PV} : run (gd (.bool c) false m) H = if c = true then some (.ok (.tup []) H) else run m H := by cases c <;> rfl
theorem uih : strip (.tup []) = .tup [] := nrfl rfl
theorem use {b : Bool} {m : M PV} : run (gd (.tup []) b m) H = some (.ok (.tup []) H) := nrfl rfl
theorem upu {c : Bool} : run (pick (.bool c) x y) H = if c = true then some (.ok (strip x) H) else some (.ok (strip y) H) := by cases c <;> rfl
theorem run_pure {v : α} : run (M.pure v) H = some (.ok v H) := nrfl rfl
theorem uvk {v : PV} : run (M.pan v : M α) H = some (.pan v H) := nrfl rfl
theorem uqm : run (M.fail : M α) H = none := nrfl rfl
theorem run_al {cs : List PV} : run (al cs) H = if cs.all isCell = true then some (.ok (.ptr H.length 0) (hadd H [.cells cs])) else none := by unfold run al; cases cs.all isCell <;> rfl
theorem run_bx {n : Nat} {v : PV} : run (bx n v) H = if (v.cells.map stripC).length = n ∧ lowL (H.length + 1) (v.cells.map stripC) = true ∧ v.cells.all isCell = true then some (.ok (.ptr H.length 0) (hadd H [.cells (v.cells.map stripC)])) else none := by
  unfold run bx
  cases h1 : ((v.cells.map stripC).length == n) <;> cases h2 : lowL (H.length + 1) (v.cells.map stripC) <;> cases h3 : v.cells.all isCell <;> simp_all [hadd]
theorem ucm (a b : Nat) : (a == b) = decide (a = b) := by rw [Bool.eq_iff_iff]; simp
def ldB (n : Option Nat) (mv : Bool) (id o : Nat) (H : Heap) : Option Box → Option (Out PV)
  | some (.cells cs) => match n with
      | none => match cs[o]? with
        | some v => bif mv then some (.ok v (hset H id (.cells (cs.set o (stripC v))))) else some (.ok (stripC v) H)
        | none => none
      | some n => bif decide (o + n ≤ cs.length) then some (.ok (.agg (((cs.drop o).take n).map stripC)) H) else none
  | _ => none
theorem run_ld {n : Option Nat} {mv : Bool} {id o : Nat} : run (ld n mv (.ptr id o)) H = ldB n mv id o H (hget H id) := by
  unfold run ld ldB
  rfl
def stB (n : Nat) (mv : Bool) (id o : Nat) (v : PV) (H : Heap) : Option Box → Option (Out PV)
  | some (.cells cs) => bif v.cells.length == n && (decide (o + n ≤ cs.length) && (lowL (id + 1) v.cells && v.cells.all isCell)) then
        some (.ok .undef (hset H id (.cells (fillAt o (bif mv then v.cells else v.cells.map stripC) cs))))
      else none
  | _ => none
theorem run_st {n : Nat} {mv : Bool} {id o : Nat} {v : PV} : run (st n mv (.ptr id o) v) H = stB n mv id o v H (hget H id) := by
  unfold run st stB
  rfl
theorem uoy {n : Nat} {mv : Bool} {id o : Nat} {cs : List PV} : ldB (some n) mv id o H (some (.cells cs)) = if o + n ≤ cs.length then some (.ok (.agg (((cs.drop o).take n).map stripC)) H) else none := by
  show (bif decide (o + n ≤ cs.length) then some (Out.ok (PV.agg (((cs.drop o).take n).map stripC)) H) else none) = _
  by_cases h : o + n ≤ cs.length <;> simp [h]
def nth : List α → Nat → Option α
  | [], _ => none
  | v :: _, 0 => some v
  | _ :: r, n + 1 => nth r n
theorem uft {v : α} {r : List α} : nth (v :: r) 0 = some v := nrfl rfl
theorem upg {v : α} {r : List α} {n : Nat} : nth (v :: r) (n + 1) = nth r n := nrfl rfl
theorem nth_is : ∀ (l : List α) (n : Nat), l[n]? = nth l n
  | [], _ => rfl
  | _ :: _, 0 => rfl
  | _ :: r, n + 1 => nth_is r n
def ldTR (H : Heap) (id : Nat) (cs : List PV) (o : Nat) : Option PV → Option (Out PV)
  | some v => some (.ok v (hset H id (.cells (cs.set o (stripC v)))))
  | none => none
def ldFR (H : Heap) : Option PV → Option (Out PV)
  | some v => some (.ok (stripC v) H)
  | none => none
theorem ulm {id : Nat} {cs : List PV} {o : Nat} {v : PV} : ldTR H id cs o (some v) = some (.ok v (hset H id (.cells (cs.set o (stripC v))))) := nrfl rfl
theorem umh {v : PV} : ldFR H (some v) = some (.ok (stripC v) H) := nrfl rfl
theorem ldB_t {id o : Nat} {cs : List PV} : ldB none true id o H (some (.cells cs)) = ldTR H id cs o (nth cs o) := by
  rw [← nth_is]; rfl
theorem ldB_f {id o : Nat} {cs : List PV} : ldB none false id o H (some (.cells cs)) = ldFR H (nth cs o) := by
  rw [← nth_is]; rfl
theorem stB_is {n : Nat} {mv : Bool} {id o : Nat} {v : PV} {cs : List PV} :
    stB n mv id o v H (some (.cells cs)) = if v.cells.length = n ∧ o + n ≤ cs.length ∧ lowL (id + 1) v.cells = true ∧ v.cells.all isCell = true then some (.ok .undef (hset H id (.cells (fillAt o (if mv = true then v.cells else v.cells.map stripC) cs)))) else none := by
  show (bif v.cells.length == n && (decide (o + n ≤ cs.length) && (lowL (id + 1) v.cells && v.cells.all isCell)) then some (Out.ok PV.undef (hset H id (.cells (fillAt o (bif mv then v.cells else v.cells.map stripC) cs)))) else none) = _
  cases hb : v.cells.all isCell <;> cases hc : lowL (id + 1) v.cells <;> by_cases h1 : v.cells.length = n <;> by_cases h2 : o + n ≤ cs.length <;> cases mv <;> simp [h1, h2, ucm (v.cells.length) n]
theorem uq5 {mv : Bool} {cs : List PV} {c : PV} : run (ld none mv (.elem (c :: cs))) H = some (.ok c H) := nrfl rfl
theorem uqz {mv : Bool} {n : Nat} {cs : List PV} : run (ld (some n) mv (.elem cs)) H = if n ≤ cs.length then some (.ok (.agg (cs.take n)) H) else none := by
  show (bif decide (n ≤ cs.length) then M.pure (PV.agg (cs.take n)) else M.fail) H = _
  by_cases h : n ≤ cs.length <;> simp [h, M.pure, M.fail]
theorem u7p {L : List Box} (k : Nat) : hget (hadd H L) (H.length + k) = nth L k := by unfold hget hadd; rw [List.getElem?_append_right (Nat.le_add_right _ _), Nat.add_sub_cancel_left, nth_is]
theorem u86 {L : List Box} : hget (hadd H L) H.length = nth L 0 := u7p 0
theorem uba {L : List Box} {i : Nat} (h : i < H.length) : hget (hadd H L) i = hget H i := List.getElem?_append_left h
theorem uad {L : List Box} {x : Box} (k : Nat) : hset (hadd H L) (H.length + k) x = hadd H (L.set k x) := by unfold hset hadd; rw [List.set_append_right _ _ (Nat.le_add_right _ _), Nat.add_sub_cancel_left]
theorem udv {L : List Box} {x : Box} : hset (hadd H L) H.length x = hadd H (L.set 0 x) := uad 0
theorem ucz {L : List Box} {i : Nat} {x : Box} (h : i < H.length) : hset (hadd H L) i x = hadd (hset H i x) L := List.set_append_left _ _ h
theorem u7s {i : Nat} {x : Box} (h : i < H.length) : hget (hset H i x) i = some x := by unfold hget hset; rw [List.getElem?_set_self h]
theorem set_set {i : Nat} {x y : Box} : hset (hset H i x) i y = hset H i y := List.set_set _
theorem uhv {L K : List Box} : hadd (hadd H L) K = hadd H (L ++ K) := List.append_assoc _ _ _
theorem uno {A L : List Box} {n : Nat} (h : n = A.length) : hcut (hadd A L) n = A := by subst h; simp [hcut, hadd]
theorem uni {A : List Box} {n : Nat} (h : n = A.length) : hcut A n = A := by subst h; simp [hcut]
theorem cut0 : hcut H H.length = H := uni rfl
theorem cut1 {i : Nat} {x : Box} : hcut (hset H i x) H.length = hset H i x := uni (by unfold hset; simp)
theorem cut2 {i j : Nat} {x y : Box} : hcut (hset (hset H i x) j y) H.length = hset (hset H i x) j y := uni (by unfold hset; simp)
theorem cutA0 {L : List Box} : hcut (hadd H L) H.length = H := uno rfl
theorem cutA1 {L : List Box} {i : Nat} {x : Box} : hcut (hadd (hset H i x) L) H.length = hset H i x := uno (by unfold hset; simp)
theorem cutA2 {L : List Box} {i j : Nat} {x y : Box} : hcut (hadd (hset (hset H i x) j y) L) H.length = hset (hset H i x) j y := uno (by unfold hset; simp)
theorem u7l {L : List Box} : List.length (hadd H L) = H.length + L.length := List.length_append
theorem ud0 {i : Nat} {x : Box} : List.length (hset H i x) = H.length := List.length_set
theorem ufw {L : List Box} {i : Nat} {y : Box} (k : Nat) : hget (hadd (hset H i y) L) (H.length + k) = nth L k := by
  have := u7p (H := hset H i y) (L := L) k
  rwa [ud0] at this
theorem ug2 {L : List Box} {i : Nat} {y : Box} : hget (hadd (hset H i y) L) H.length = nth L 0 := ufw 0
theorem ufi {L : List Box} {i : Nat} {x y : Box} (k : Nat) : hset (hadd (hset H i y) L) (H.length + k) x = hadd (hset H i y) (L.set k x) := by
  have := uad (H := hset H i y) (L := L) (x := x) k
  rwa [ud0] at this
theorem uhg {L : List Box} {i : Nat} {x y : Box} : hset (hadd (hset H i y) L) H.length x = hadd (hset H i y) (L.set 0 x) := ufi 0
theorem ubx {L : List Box} {i j : Nat} {y : Box} (h : i < H.length) : hget (hadd (hset H j y) L) i = hget (hset H j y) i := uba (by rw [ud0]; exact h)
theorem ubt {L : List Box} {i j : Nat} {x y : Box} (h : i < H.length) : hset (hadd (hset H j y) L) i x = hadd (hset (hset H j y) i x) L := ucz (by rw [ud0]; exact h)
theorem get_lt {i : Nat} {x : Box} (h : hget H i = some x) : i < H.length := (List.getElem?_eq_some_iff.mp h).1
theorem u58 {i : Nat} {x : Box} (h : hget H i = some x) : hset H i x = H := by
  obtain ⟨h1, h2⟩ := List.getElem?_eq_some_iff.mp h
  unfold hset; subst h2; exact List.set_getElem_self h1
theorem w_i64 (h : -9223372036854775808 ≤ n ∧ n ≤ 9223372036854775807) : IntKind.i64.wrap n = n := by rw [IntKind.wrap_i64]; omega
theorem w_u64 (h : 0 ≤ n ∧ n ≤ 18446744073709551615) : IntKind.u64.wrap n = n := by simp only [IntKind.wrap, IntKind.signed, IntKind.bits]; simp; omega
theorem w_u8 (h : 0 ≤ n ∧ n ≤ 255) : IntKind.u8.wrap n = n := by rw [IntKind.wrap_u8]; omega
theorem w_u32 (h : 0 ≤ n ∧ n ≤ 4294967295) : IntKind.u32.wrap n = n := by rw [IntKind.wrap_u32]; omega
theorem w_i32 (h : -2147483648 ≤ n ∧ n ≤ 2147483647) : IntKind.i32.wrap n = n := by rw [IntKind.wrap_i32]; omega
theorem u7j (h : 0 ≤ b) : bi .shl ek (.int k a) (.int j b) = M.pure (.int k (k.wrap (a * 2 ^ shiftN k b))) := by
  have : ¬ b < 0 := by omega
  simp [bi, this]
theorem ub4 (h : 0 ≤ b) : bi .shr ek (.int k a) (.int j b) = M.pure (.int k (a.fdiv (2 ^ shiftN k b))) := by
  have : ¬ b < 0 := by omega
  simp [bi, this]
theorem uv9 (h : b ≠ 0) : bi .quo ek (.int k a) (.int k b) = M.pure (.int k (k.wrap (a.tdiv b))) := by
  have h' : (b == 0) = false := by simpa using h
  cases k <;> simp [bi, intOp, h']
theorem u91 (h : b ≠ 0) : bi .rem ek (.int k a) (.int k b) = M.pure (.int k (a.tmod b)) := by
  have h' : (b == 0) = false := by simpa using h
  cases k <;> simp [bi, intOp, h']
theorem u8k : bi .and ek (.int k a) (.int k b) = M.pure (.int k (k.wrap (BitVec.ofInt k.bits a &&& BitVec.ofInt k.bits b).toNat)) := by cases k <;> rfl
theorem run_or : bi .or ek (.int k a) (.int k b) = M.pure (.int k (k.wrap (BitVec.ofInt k.bits a ||| BitVec.ofInt k.bits b).toNat)) := by cases k <;> rfl
def iaR (H : Heap) : Option PV → Option (Out PV)
  | some x => some (.ok (.elem x.cells) H)
  | none => none
theorem uq3 {x : PV} : iaR H (some x) = some (.ok (.elem x.cells) H) := nrfl rfl
theorem u9r {o z : Bool} {sz : Nat} {xs : List PV} (h0 : 0 ≤ n) : run (iaS sz (.slice o z sz xs) (.int k n)) H = iaR H xs[n.toNat]? := by
  unfold iaS iaR run
  have h' : decide (0 ≤ n) = true := by simpa using h0
  simp only [h', beq_self_eq_true, Bool.and_self, cond_true, u5z, M.fail, M.pure]
  split <;> rename_i h <;> simp only [h] <;> rfl
theorem run_fa {off id o : Nat} : fa off (.ptr id o) = M.pure (.ptr id (o + off)) := nrfl rfl
theorem usr {off : Nat} {cs : List PV} : fa off (.elem cs) = M.pure (.elem (cs.drop off)) := nrfl rfl
theorem u46 {P : Program} {C : CallT} {f : FuncId} {u v args : List PV} : callV P C (.fn f u v) args = C f (u ++ args ++ v) := nrfl rfl
theorem nc_ptr {P : Program} {i o : Nat} : nc P (.ptr i o) = M.pure (.ptr i o) := nrfl rfl
theorem uvr {P : Program} {cs : List PV} : nc P (.elem cs) = M.pure (.elem cs) := nrfl rfl
theorem nc_nil {P : Program} : nc P .nil = M.pan (nilDeref P) := nrfl rfl
theorem run_mi {t : TypeId} {v : PV} : run (mi t v) H = if isVal v = true then some (.ok (.iface t (stripC v)) H) else none := by
  unfold run mi
  cases isVal v <;> rfl
theorem run_pn {t : TypeId} {v : PV} : pn (.iface t v) = M.pan (.iface t v) := nrfl rfl
theorem uuo {o : Bool} : cv (.int k) o (.int j n) = M.pure (.int k (k.wrap n)) := nrfl rfl
theorem uug {v : PV} {r : List PV} : ex 0 (.tup (v :: r)) = M.pure v := nrfl rfl
theorem uuc {u v : PV} {r : List PV} : ex 1 (.tup (u :: v :: r)) = M.pure v := nrfl rfl
theorem uvn {u v x : PV} {r : List PV} : ex 2 (.tup (u :: v :: x :: r)) = M.pure x := nrfl rfl
theorem uoo {v : PV} {r : List PV} : tupDrop 0 (.tup (v :: r)) = .tup (stripC v :: r) := nrfl rfl
theorem uq9 {u v : PV} {r : List PV} : tupDrop 1 (.tup (u :: v :: r)) = .tup (u :: stripC v :: r) := nrfl rfl
theorem uqy {u v x : PV} {r : List PV} : tupDrop 2 (.tup (u :: v :: x :: r)) = .tup (u :: v :: stripC x :: r) := nrfl rfl
section
variable {c d : Bool} {s : ByteArray} {i o : Nat} {cs ds : List PV} {N : Nat}
theorem uma : isTup (.int k n) = false := nrfl rfl
theorem uig : isCell (.int k n) = true := nrfl rfl
theorem umq : isVal (.int k n) = true := nrfl rfl
theorem uln : isPtr (.int k n) = false := nrfl rfl
theorem ukz : PV.cells (.int k n) = [(.int k n)] := nrfl rfl
theorem u8b : PV.low N (.int k n) = true := by simp only [PV.low]
theorem ujf : isTup (.bool c) = false := nrfl rfl
theorem ugj : isCell (.bool c) = true := nrfl rfl
theorem uil : isVal (.bool c) = true := nrfl rfl
theorem ujc : isPtr (.bool c) = false := nrfl rfl
theorem uix : PV.cells (.bool c) = [(.bool c)] := nrfl rfl
theorem ubu : PV.low N (.bool c) = true := by simp only [PV.low]
theorem un5 : isTup (.str s) = false := nrfl rfl
theorem uir : isCell (.str s) = true := nrfl rfl
theorem uku : isVal (.str s) = true := nrfl rfl
theorem um3 : isPtr (.str s) = false := nrfl rfl
theorem uls : PV.cells (.str s) = [(.str s)] := nrfl rfl
theorem ush : PV.low N (.str s) = true := by simp only [PV.low]
theorem un4 : isTup .nil = false := nrfl rfl
theorem uio : isCell .nil = true := nrfl rfl
theorem ump : isVal .nil = true := nrfl rfl
theorem ul0 : isPtr .nil = false := nrfl rfl
theorem uly : PV.cells .nil = [.nil] := nrfl rfl
theorem uu3 : PV.low N .nil = true := by simp only [PV.low]
theorem ula : isTup (.ptr i o) = false := nrfl rfl
theorem ujb : isCell (.ptr i o) = true := nrfl rfl
theorem umv : isVal (.ptr i o) = true := nrfl rfl
theorem umc : isPtr (.ptr i o) = true := nrfl rfl
theorem um2 : PV.cells (.ptr i o) = [(.ptr i o)] := nrfl rfl
theorem uts : PV.low N (.ptr i o) = decide (i < N) := by simp only [PV.low]
theorem uis : isTup (.elem cs) = false := nrfl rfl
theorem ug5 : isCell (.elem cs) = true := nrfl rfl
theorem uid : isVal (.elem cs) = true := nrfl rfl
theorem uiz : isPtr (.elem cs) = false := nrfl rfl
theorem uim : PV.cells (.elem cs) = [(.elem cs)] := nrfl rfl
theorem uq1 : PV.low N (.elem cs) = true := by simp only [PV.low]
theorem uhy : isTup (.slice c d i cs) = false := nrfl rfl
theorem ufa : isCell (.slice c d i cs) = true := nrfl rfl
theorem ugh : isVal (.slice c d i cs) = true := nrfl rfl
theorem uhr : isPtr (.slice c d i cs) = false := nrfl rfl
theorem uh0 : PV.cells (.slice c d i cs) = [(.slice c d i cs)] := nrfl rfl
theorem u7q : PV.low N (.slice c d i cs) = true := by simp only [PV.low]
theorem upk : isTup (.fn i cs ds) = false := nrfl rfl
theorem ukl : isCell (.fn i cs ds) = true := nrfl rfl
theorem uqt : isVal (.fn i cs ds) = true := nrfl rfl
theorem upn : isPtr (.fn i cs ds) = false := nrfl rfl
theorem uon : PV.cells (.fn i cs ds) = [(.fn i cs ds)] := nrfl rfl
theorem low_fn : PV.low N (.fn i cs ds) = (lowL N cs && lowL N ds) := by simp only [PV.low]
theorem ui3 : isTup .nilfn = false := nrfl rfl
theorem uet : isCell .nilfn = true := nrfl rfl
theorem uhw : isVal .nilfn = true := nrfl rfl
theorem ugb : isPtr .nilfn = false := nrfl rfl
theorem uh3 : PV.cells .nilfn = [.nilfn] := nrfl rfl
theorem umw : PV.low N .nilfn = true := by simp only [PV.low]
theorem ugq : isTup (.iface i x) = false := nrfl rfl
theorem uf9 : isCell (.iface i x) = true := nrfl rfl
theorem ufz : isVal (.iface i x) = true := nrfl rfl
theorem ui0 : isPtr (.iface i x) = false := nrfl rfl
theorem uhh : PV.cells (.iface i x) = [(.iface i x)] := nrfl rfl
theorem udu : PV.low N (.iface i x) = x.low N := by simp only [PV.low]
theorem uco : isTup .niliface = false := nrfl rfl
theorem uav : isCell .niliface = true := nrfl rfl
theorem ucn : isVal .niliface = true := nrfl rfl
theorem ucj : isPtr .niliface = false := nrfl rfl
theorem uck : PV.cells .niliface = [.niliface] := nrfl rfl
theorem uf5 : PV.low N .niliface = true := by simp only [PV.low]
theorem umf : isTup (.agg cs) = false := nrfl rfl
theorem uj0 : isCell (.agg cs) = false := nrfl rfl
theorem ul9 : isVal (.agg cs) = true := nrfl rfl
theorem um6 : isPtr (.agg cs) = false := nrfl rfl
theorem ul7 : PV.cells (.agg cs) = cs := nrfl rfl
theorem ufx : PV.low N (.agg cs) = lowL N cs := by simp only [PV.low]
theorem ult : isTup (.tup cs) = true := nrfl rfl
theorem uj1 : isCell (.tup cs) = false := nrfl rfl
theorem ulv : isVal (.tup cs) = false := nrfl rfl
theorem ukn : isPtr (.tup cs) = false := nrfl rfl
theorem ulb : PV.cells (.tup cs) = [(.tup cs)] := nrfl rfl
theorem uen : PV.low N (.tup cs) = lowL N cs := by simp only [PV.low]
theorem ug6 : isTup .undef = false := nrfl rfl
theorem uey : isCell .undef = false := nrfl rfl
theorem ui1 : isVal .undef = false := nrfl rfl
theorem ugr : isPtr .undef = false := nrfl rfl
theorem ugn : PV.cells .undef = [.undef] := nrfl rfl
theorem un8 : PV.low N .undef = true := by simp only [PV.low]
end
theorem u8m {n : Nat} : lowL n [] = true := by simp only [lowL]
theorem u7x {n : Nat} {v : PV} {r : List PV} : lowL n (v :: r) = (v.low n && lowL n r) := by simp only [lowL]
def bdR (H : Heap) : Option (List PV) → Option (Out PV)
  | some cs => some (.ok (.agg cs) H)
  | none => none
theorem uqx {cs : List PV} : bdR H (some cs) = some (.ok (.agg cs) H) := nrfl rfl
theorem run_bd {zero : List PV} {parts : List (Nat × Nat × PV)} : run (bd zero parts) H = bdR H (u7o parts zero) := by
  unfold run bd bdR
  cases u7o parts zero <;> rfl
theorem uhe {cs : List PV} : u7o [] cs = some cs := nrfl rfl
theorem uf4 {off size : Nat} {v : PV} {r : List (Nat × Nat × PV)} {cs : List PV} : u7o ((off, size, v) :: r) cs = if v.cells.length = size ∧ off + size ≤ cs.length ∧ v.cells.all isCell = true then u7o r (fillAt off (v.cells.map stripC) cs) else none := by
  show (bif v.cells.length == size && (decide (off + size ≤ cs.length) && v.cells.all isCell) then u7o r (fillAt off (v.cells.map stripC) cs) else none) = _
  cases hb : v.cells.all isCell <;> by_cases h1 : v.cells.length = size <;> by_cases h2 : off + size ≤ cs.length <;> simp [h1, h2, hb, ucm (v.cells.length) size]
theorem ulo {off : Nat} {vs cs : List PV} : fillAt off vs cs = cs.take off ++ vs ++ cs.drop (off + vs.length) := nrfl rfl
def bsR (own : Bool) (a : Option Nat) (vs : List PV) (H : Heap) : Option (Out PV) := if vs.all (u4q a) = true then some (.ok (.slice own false (a.getD 1) vs) H) else none
theorem run_bs {own : Bool} {a : Option Nat} {vs : List PV} : run (bs own a vs) H = bsR own a (vs.map stripC) H := by
  unfold run bs bsR
  cases ((vs.map stripC).all (u4q a)) <;> rfl
def noPanR : Option (Out PV) → Option (Out PV)
  | some (.ok v H) => some (.ok v H)
  | _ => none
theorem uh2 {m : M PV} : run (noPan m) H = noPanR (run m H) := by
  unfold run noPan noPanR
  cases m H with
  | none => rfl
  | some q => cases q <;> rfl
theorem ulj {v : PV} {H : Heap} : noPanR (some (.ok v H)) = some (.ok v H) := nrfl rfl
theorem uj4 {v : PV} {H : Heap} : noPanR (some (.pan v H)) = none := nrfl rfl
theorem ug7 : noPanR none = none := nrfl rfl
theorem uiu {c : Prop} [Decidable c] {r r' : Option (Out PV)} : noPanR (if c then r else r') = if c then noPanR r else noPanR r' := by split <;> rfl
noncomputable def chkR (r r' : Option (Out α)) (x : M β) (H : Heap) : Option (Out β) := run (chk (fun _ => r) (fun _ => r') x) H
@[congr] theorem v007 {r r' s s' : Option (Out α)} {x : M β} (h : r = s) (h' : r' = s') : chkR r r' x H = chkR s s' x H := by rw [h, h']
theorem uvj {m m' : M α} {x : M β} : run (chk m m' x) H = chkR (run m H) (run m' H) x H := nrfl rfl
theorem uo2 {a : α} {K : Heap} {x : M β} : chkR (some (.ok a K)) (some (.ok a K)) x H = run x H := by
  simp [chkR, run, chk]
theorem uvh {i o : Nat} : tld (.ptr i o) = .ld i := nrfl rfl
theorem ut3 {i o : Nat} : tst (.ptr i o) = .st i := nrfl rfl
theorem up6 {cs : List PV} : tld (.elem cs) = .no := nrfl rfl
theorem up3 {x : Touch} : clash .no x = false := nrfl rfl
theorem uko {y : Touch} : clash y .no = false := by cases y <;> rfl
theorem ugw {i j : Nat} : clash (.ld i) (.ld j) = false := nrfl rfl
theorem uga {i j : Nat} : clash (.ld j) (.st i) = (i == j) := nrfl rfl
theorem uhq {i j : Nat} : clash (.st j) (.ld i) = (i == j) := nrfl rfl
theorem uht {i j : Nat} : clash (.st j) (.st i) = (i == j) := nrfl rfl
theorem uev {i : Nat} : clash .any (.ld i) = false := nrfl rfl
theorem uf0 {i : Nat} : clash (.ld i) .any = false := nrfl rfl
theorem ue0 : clash .any .any = false := nrfl rfl
def defR (CD : Option PV → CallT) (f : FuncId) (args : List PV) (res : M PV) : Option (Out PV) → Option (Out PV)
  | none => none
  | some (.ok _ H) => bindR (run (CD none f args) H) (fun _ => res)
  | some (.pan v H) => bindR (run (CD (some v) f args) H) (fun r => match r with | .tup [] => res | _ => M.fail)
theorem umd {CD : Option PV → CallT} {f : FuncId} {u v args : List PV} {rest res : M PV} : run (deferM CD (.fn f u v) args rest res) H = defR CD f (u ++ args ++ v) res (run rest H) := by
  unfold run deferM defR
  dsimp only
  cases rest H with
  | none => rfl
  | some q => cases q <;> rfl
@[congr] theorem v00a {CD : Option PV → CallT} {f : FuncId} {args : List PV} {res : M PV} {r r' : Option (Out PV)} (h : r = r') : defR CD f args res r = defR CD f args res r' := by rw [h]
theorem um9 {CD : Option PV → CallT} {f : FuncId} {args : List PV} {res : M PV} : defR CD f args res none = none := nrfl rfl
theorem uus {CD : Option PV → CallT} {f : FuncId} {args : List PV} {res : M PV} {v : PV} : defR CD f args res (some (.ok v H)) = bindR (run (CD none f args) H) (fun _ => res) := nrfl rfl
theorem uqd {CD : Option PV → CallT} {f : FuncId} {args : List PV} {res : M PV} {v : PV} : defR CD f args res (some (.pan v H)) = bindR (run (CD (some v) f args) H) (fun r => match r with | .tup [] => res | _ => M.fail) := nrfl rfl
theorem uqw {CD : Option PV → CallT} {f : FuncId} {args : List PV} {res : M PV} {c : Prop} [Decidable c] {r r' : Option (Out PV)} : defR CD f args res (if c then r else r') = if c then defR CD f args res r else defR CD f args res r' := by split <;> rfl
end Go.Proofs.YthidcpkcfoldmaaGreat.Pi
namespace Go.Proofs.YthidcpkcfoldmaaGreat.Pi
def byt (c : UInt8) : PV := .int .u8 c.toNat
abbrev bytes (b : List UInt8) : List PV := b.map byt
abbrev BS (z : Bool) (b : List UInt8) : PV := .slice false z 1 (bytes b)
theorem ubh {b : List UInt8} {k : Nat} (h : k < b.length) : (bytes b)[k]? = some (byt b[k]) := by simp [bytes, h]
theorem byt_lt (c : UInt8) : c.toNat < 256 := c.toNat_lt
theorem ujr (n s x : Nat) (hn : n < 2 ^ s) : n ||| (x * 2 ^ s) = n + x * 2 ^ s := by
  rw [Nat.or_comm, Nat.mul_comm, ← Nat.two_pow_add_eq_or_of_lt hn, Nat.add_comm]
theorem bv_or {w a b : Nat} (ha : a < 2 ^ w) (hb : b < 2 ^ w) : (BitVec.ofInt w (a : Int) ||| BitVec.ofInt w (b : Int)).toNat = a ||| b := by
  rw [BitVec.toNat_or, BitVec.ofInt_natCast, BitVec.ofInt_natCast, BitVec.toNat_ofNat, BitVec.toNat_ofNat, Nat.mod_eq_of_lt ha, Nat.mod_eq_of_lt hb]
theorem bv_and {w a b : Nat} (ha : a < 2 ^ w) (hb : b < 2 ^ w) : (BitVec.ofInt w (a : Int) &&& BitVec.ofInt w (b : Int)).toNat = a &&& b := by
  rw [BitVec.toNat_and, BitVec.ofInt_natCast, BitVec.ofInt_natCast, BitVec.toNat_ofNat, BitVec.toNat_ofNat, Nat.mod_eq_of_lt ha, Nat.mod_eq_of_lt hb]
theorem and127 (a : Nat) (ha : a < 256) : IntKind.u8.wrap ((BitVec.ofInt IntKind.u8.bits (a : Int) &&& BitVec.ofInt IntKind.u8.bits 127).toNat : Int) = ((a % 128 : Nat) : Int) := by
  have e : (127 : Int) = ((127 : Nat) : Int) := rfl
  have h := bv_and (w := 8) (a := a) (b := 127) ha (by decide)
  rw [show IntKind.u8.bits = 8 from rfl, e, h, Nat.and_two_pow_sub_one_eq_mod a 7]
  exact w_u8 (by omega)
theorem uem {s : Nat} (h : s ≤ 64) : shiftN .u64 (s : Int) = s := by unfold shiftN; rw [Int.toNat_natCast]; exact Nat.min_eq_left h
theorem uby {s : Nat} (h : s ≤ 64) : shiftN .i64 (s : Int) = s := by unfold shiftN; rw [Int.toNat_natCast]; exact Nat.min_eq_left h
theorem utu {s : Nat} (h : s ≤ 8) : shiftN .u8 (s : Int) = s := by unfold shiftN; rw [Int.toNat_natCast]; exact Nat.min_eq_left h
theorem shr_u8 (c : Nat) {s : Nat} (h : s ≤ 8) : (c : Int).fdiv (2 ^ shiftN .u8 (s : Int)) = ((c / 2 ^ s : Nat) : Int) := by
  rw [utu h, Int.fdiv_eq_ediv_of_nonneg _ (Int.le_of_lt (Int.pow_pos (by omega)))]
  simp
theorem uk6 {n x s : Nat} (hs : s ≤ 63) (hn : n < 2 ^ s) (hx : x * 2 ^ s < 2 ^ 64) :
    IntKind.u64.wrap ((BitVec.ofInt IntKind.u64.bits (n : Int) ||| BitVec.ofInt IntKind.u64.bits (IntKind.u64.wrap ((x : Int) * 2 ^ shiftN .u64 (s : Int)))).toNat : Int) = ((n + x * 2 ^ s : Nat) : Int) ∧ n + x * 2 ^ s < 2 ^ 64 := by
  have e1 : ((x : Int) * 2 ^ shiftN .u64 (s : Int)) = ((x * 2 ^ s : Nat) : Int) := by rw [uem (by omega)]; simp
  have hle : 2 ^ s ≤ 2 ^ 63 := Nat.pow_le_pow_right (by omega) hs
  have hlt : n + x * 2 ^ s < 2 ^ 64 := by
    have e : (2 : Nat) ^ 64 = 2 ^ (64 - s) * 2 ^ s := by rw [← Nat.pow_add, Nat.sub_add_cancel (by omega)]
    rw [e] at hx ⊢
    have hx2 : x < 2 ^ (64 - s) := Nat.lt_of_mul_lt_mul_right hx
    have : (x + 1) * 2 ^ s ≤ 2 ^ (64 - s) * 2 ^ s := Nat.mul_le_mul_right _ hx2
    rw [Nat.add_mul] at this
    omega
  refine ⟨?_, hlt⟩
  rw [e1, w_u64 (n := ((x * 2 ^ s : Nat) : Int)) (by omega), show IntKind.u64.bits = 64 from rfl, bv_or (w := 64) (by omega) hx, ujr n s x hn]
  exact w_u64 (by omega)
inductive Rs (α : Type) where
  | ok (v : α) (p : Nat)
  | err (p e : Nat)
def lebU (b : List UInt8) (B e : Nat) : Nat → Nat → Nat → Nat → Rs Nat
  | 0, _, _, p => .err p 4
  | f + 1, i, n, p =>
    if p < e then
      let c := (b.getD p 0).toNat
      if B < 7 * i + 7 ∧ c / 2 ^ (B - 7 * i) ≠ 0 then .err p 4
      else if c < 128 then .ok (n + c * 2 ^ (7 * i)) (p + 1)
      else lebU b B e f (i + 1) (n + c % 128 * 2 ^ (7 * i)) (p + 1)
    else .err e 3
end Go.Proofs.YthidcpkcfoldmaaGreat.Pi
namespace Go.Proofs.YthidcpkcfoldmaaGreat.Pi
theorem wi (x : Int) : IntKind.i64.wrap x = (x + 9223372036854775808) % 18446744073709551616 - 9223372036854775808 := by rw [IntKind.wrap_i64]
theorem uog (x : Int) : IntKind.i64.wrap x % 18446744073709551616 = x % 18446744073709551616 := by rw [wi]; omega
theorem uop {x y : Int} (h : x % 18446744073709551616 = y % 18446744073709551616) : IntKind.i64.wrap x = IntKind.i64.wrap y := by rw [wi, wi]; omega
theorem uj2 (a : Int) : BitVec.ofInt 64 (a % 18446744073709551616) = BitVec.ofInt 64 a := by
  apply BitVec.eq_of_toNat_eq
  rw [BitVec.toNat_ofInt, BitVec.toNat_ofInt]
  have e : ((2 ^ 64 : Nat) : Int) = 18446744073709551616 := rfl
  rw [e, Int.emod_emod_of_dvd _ (Int.dvd_refl _)]
def or64 (a b : Int) : Int := ((BitVec.ofInt 64 a ||| BitVec.ofInt 64 b).toNat : Int)
theorem uu7 (a b : Int) : or64 (a % 18446744073709551616) (b % 18446744073709551616) = or64 a b := by unfold or64; rw [uj2, uj2]
theorem pow64 {s : Nat} (h : s ≤ 64) : (18446744073709551616 : Int) = 2 ^ (64 - s) * 2 ^ s := by
  rw [← Int.pow_add, Nat.sub_add_cancel h]; rfl
theorem ugo (x : Int) {s : Nat} (h : s ≤ 64) : (x * 2 ^ s) % 18446744073709551616 = (x % 2 ^ (64 - s)) * 2 ^ s := by
  rw [pow64 h, Int.mul_comm x, Int.mul_comm (2 ^ (64 - s)), Int.mul_emod_mul_of_pos _ _ (Int.pow_pos (by omega)), Int.mul_comm]
theorem upx {N x : Int} {s : Nat} (hs : s ≤ 63) (h0 : 0 ≤ N) (h1 : N < 2 ^ s) : IntKind.i64.wrap (or64 (IntKind.i64.wrap N) (IntKind.i64.wrap (x * 2 ^ s))) = IntKind.i64.wrap (N + x * 2 ^ s) := by
  have hq : (0 : Int) < 2 ^ s := Int.pow_pos (by omega)
  have hr : (0 : Int) < 2 ^ (64 - s) := Int.pow_pos (by omega)
  have hp := pow64 (show s ≤ 64 by omega)
  have hle : (2 : Int) ^ s ≤ 18446744073709551616 := by
    have h4 : 1 * (2 : Int) ^ s ≤ 2 ^ (64 - s) * 2 ^ s := Int.mul_le_mul_of_nonneg_right (by omega) (by omega)
    omega
  have hm0 := Int.emod_nonneg x (show (2 : Int) ^ (64 - s) ≠ 0 by omega)
  have hm1 := Int.emod_lt_of_pos x hr
  have hN : N % 18446744073709551616 = N := by omega
  obtain ⟨a, rfl⟩ := Int.eq_ofNat_of_zero_le h0
  obtain ⟨m, hm⟩ := Int.eq_ofNat_of_zero_le hm0
  have ha : a < 2 ^ s := by
    have h2 : ((a : Nat) : Int) < ((2 ^ s : Nat) : Int) := by simpa using h1
    exact Int.ofNat_lt.1 h2
  have e2 : ((m : Int) * 2 ^ s) = ((m * 2 ^ s : Nat) : Int) := by simp
  have hb : m * 2 ^ s < 2 ^ 64 := by
    have h2 : (x % 2 ^ (64 - s) + 1) * 2 ^ s ≤ 2 ^ (64 - s) * 2 ^ s := Int.mul_le_mul_of_nonneg_right (by omega) (by omega)
    rw [← hp, Int.add_mul, hm, e2] at h2
    omega
  have hj := uk6 (n := a) (x := m) hs ha hb
  rw [← uu7, uog, uog, hN, ugo x (by omega), hm, e2]
  unfold or64
  have hsz : ((2 : Nat) ^ s) ≤ 2 ^ 64 := Nat.pow_le_pow_right (by omega) (by omega)
  rw [bv_or (w := 64) (by omega) hb, ujr a s m ha]
  apply uop
  rw [Int.add_emod, ugo x (by omega), hm, e2]
  have := hj.2
  omega
def okS (h c : Nat) : Prop := c < 128 ∧ (c / 2 ^ (h - 1) = 0 ∨ c / 2 ^ (h - 1) = 2 ^ (8 - h) - 1)
instance (h c : Nat) : Decidable (okS h c) := by unfold okS; infer_instance
theorem uza (n : Int) : IntKind.i8.wrap n = (n + 128) % 256 - 128 := by
  have h : IntKind.i8.wrap n = if 128 ≤ n % 256 then n % 256 - 256 else n % 256 := by
    simp [IntKind.wrap, IntKind.bits, IntKind.signed]
  rw [h]; split <;> omega
theorem uyy (n : Int) : IntKind.u8.wrap n = n % 256 := by
  simp [IntKind.wrap, IntKind.bits, IntKind.signed]
theorem top_ok {h : Nat} (hh : h = 1 ∨ h = 4 ∨ h = 5) {c : Nat} (c1 : c < 128) :
    ((IntKind.i8.wrap (IntKind.u8.wrap ((c : Int) * 2 ^ shiftN .u8 1))).fdiv (2 ^ shiftN .i8 (h : Int)) = 0 ∨ (IntKind.i8.wrap (IntKind.u8.wrap ((c : Int) * 2 ^ shiftN .u8 1))).fdiv (2 ^ shiftN .i8 (h : Int)) = -1) ↔ okS h c := by
  have e1 : ((c : Int) * 2 ^ shiftN .u8 1) = (c : Int) * 2 := rfl
  have e2 : shiftN .i8 (h : Int) = h := by unfold shiftN; rw [Int.toNat_natCast]; exact Nat.min_eq_left (by show h ≤ 8; omega)
  rw [uza, uyy, e1, e2, Int.fdiv_eq_ediv_of_nonneg _ (Int.le_of_lt (Int.pow_pos (by omega)))]
  unfold okS
  rcases hh with rfl | rfl | rfl
  · show ((((c * 2 : Int) % 256 + 128) % 256 - 128) / 2 ^ 1 = 0 ∨ (((c * 2 : Int) % 256 + 128) % 256 - 128) / 2 ^ 1 = -1) ↔ (c < 128 ∧ (c / 2 ^ 0 = 0 ∨ c / 2 ^ 0 = 2 ^ 7 - 1))
    omega
  · show ((((c * 2 : Int) % 256 + 128) % 256 - 128) / 2 ^ 4 = 0 ∨ (((c * 2 : Int) % 256 + 128) % 256 - 128) / 2 ^ 4 = -1) ↔ (c < 128 ∧ (c / 2 ^ 3 = 0 ∨ c / 2 ^ 3 = 2 ^ 4 - 1))
    omega
  · show ((((c * 2 : Int) % 256 + 128) % 256 - 128) / 2 ^ 5 = 0 ∨ (((c * 2 : Int) % 256 + 128) % 256 - 128) / 2 ^ 5 = -1) ↔ (c < 128 ∧ (c / 2 ^ 4 = 0 ∨ c / 2 ^ 4 = 2 ^ 3 - 1))
    omega
theorem and64 (a : Nat) (ha : a < 128) : IntKind.u8.wrap ((BitVec.ofInt IntKind.u8.bits (a : Int) &&& BitVec.ofInt IntKind.u8.bits 64).toNat : Int) = if a < 64 then 0 else 64 := by
  have e : (64 : Int) = ((64 : Nat) : Int) := rfl
  have h := bv_and (w := 8) (a := a) (b := 64) (by omega) (by decide)
  have h2 : ∀ y, y < 128 → y &&& 64 = if y < 64 then 0 else 64 := by decide +kernel
  rw [show IntKind.u8.bits = 8 from rfl, e, h, h2 a ha]
  split <;> rfl
def lastS (c s : Nat) : Int := (if c < 64 then (c : Int) else (c : Int) - 128) * 2 ^ s
def lebS (b : List UInt8) (B e : Nat) : Nat → Nat → Nat → Nat → Rs Int
  | 0, _, _, p => .err p 4
  | f + 1, i, n, p =>
    if p < e then
      let c := (b.getD p 0).toNat
      if B < 7 * i + 7 ∧ ¬ okS (B - 7 * i) c then .err p 4
      else if c < 128 then .ok (IntKind.i64.wrap (n + lastS c (7 * i))) (p + 1)
      else lebS b B e f (i + 1) (n + c % 128 * 2 ^ (7 * i)) (p + 1)
    else .err e 3
def rdS (b : List UInt8) (B e p : Nat) : Rs Int := lebS b B e 10 0 0 p
end Go.Proofs.YthidcpkcfoldmaaGreat.Pi
namespace Go.Proofs.YthidcpkcfoldmaaGreat.Pi
open Go.ChangeShapes Go.WideShapes
def imOf (w : World) (b o : Nat) : Option Value := w.cell? ⟨b, o, none⟩
theorem imOf_ok (w : World) : ∀ b o v, imOf w b o = some v → w.cell? ⟨b, o, none⟩ = some v := fun _ _ _ h => h
def ub5 (zs : List Int) : List UInt8 := zs.map fun n => UInt8.ofNat n.toNat
theorem wf_u8 {n : Int} (h : (Lit.int .u8 n).wf = true) : 0 ≤ n ∧ n < 256 := by
  simp [Lit.wf, IntKind.min, IntKind.max, IntKind.bits, IntKind.signed] at h
  omega
theorem utz {P : Program} {w : World} {base : Nat} {t e : TypeId} {a : Addr} {len cap : Nat} (ht : P.underlying t = some (.slice e)) (h : Value.okWide P w .any base t (.slice (some a) len cap)) : a.spot = none := by
  unfold Value.okWide at h
  simp only [ht] at h
  unfold Cell.okWide at h
  simp only [ht] at h
  unfold Cell.ok at h
  simp only [ht] at h
  exact h.2.2.2.1
theorem open_bytes {H : Type} {enc : TypeId × Value → H} {P : Program} {W : World} {base : Nat} {spare : Nat → Bool} {held : Bool} {t e : TypeId} {v : Value} {d : DataW H} {ps : List MemPlace} {ts : List TypeId} {ds : List (DataW H)} {j : Nat}
    (hsz : (DataW.weightsEach P ts ds).all (· ≤ reachBytes) = true) (htj : ts[j]? = some t) (hd : ds[j]? = some d) (hu : P.underlying t = some (.slice e)) (he : P.underlying e = some (.int .u8)) (hc : P.cellsOf e = 1) (hB : P.bytesOf e = 1)
    (hok : Value.okWide P W .any base t v) {b0 : Nat} (h : DataW.Trod enc P W b0 spare held t v d ps) :
    ∃ z b, b.length ≤ 140737488351232 ∧ Rep [] (imOf W) (BS z b) v ∧ ∀ x ∈ ps, x.block < W.heap.size := by
  obtain ⟨a, len, cap, rfl⟩ := okWide_slice hu hok
  have k := h
  have lt : ∀ x ∈ ps, x.block < W.heap.size := by obtain ⟨m, hm⟩ := k; exact DataW.trod_lt m _ _ _ hm
  obtain ⟨fuel, hf⟩ := h
  rcases open_ints hu he hc hf with ⟨hcs, _⟩ | ⟨x, l, c, zs, hcs, _, hl, hm, hz, hx, hcell, hwz⟩
  · simp [Value.cells] at hcs
    obtain ⟨rfl, rfl, rfl⟩ := hcs
    exact ⟨true, [], by simp, .flat (.snil 1), lt⟩
  · simp [Value.cells] at hcs
    obtain ⟨rfl, rfl, rfl⟩ := hcs
    have hsp := utz hu hok
    obtain ⟨g, o, sp⟩ := x
    obtain rfl : sp = none := hsp
    have hlz : len ≤ zs.length := by rw [hz]; split <;> omega
    refine ⟨false, ub5 (zs.take len), ?_, ?_, lt⟩
    · obtain ⟨hx, _⟩ := Prod.mk.inj hx
      subst hx
      have z := sized_slice hsz htj hd hu
      rw [hB] at z
      have h1 : (lits (H := H) .u8 (zs.take len)).length + (lits (H := H) .u8 (zs.drop len)).length = zs.length := by
        simp [lits]
        omega
      rw [h1] at z
      simp only [ub5, List.length_map, List.length_take]
      have : reachBytes = 140737488351232 := rfl
      omega
    · have hln : (bytes (ub5 (zs.take len))).length = len := by simp [bytes, ub5, hlz]
      have hget : ∀ (i : Nat) (x : PV), (bytes (ub5 (zs.take len)))[i]? = some x → i < len ∧ x = .int .u8 (zs.getD i 0) := by
        intro i x hx
        have hi : i < len := by
          have := (List.getElem?_eq_some_iff.mp hx).1
          omega
        refine ⟨hi, ?_⟩
        have hiz : i < zs.length := by omega
        have e1 : (bytes (ub5 (zs.take len)))[i]? = some (byt (UInt8.ofNat (zs[i]).toNat)) := by
          simp [bytes, ub5, hi, hiz]
        rw [e1] at hx
        obtain rfl := Option.some.inj hx
        have hw := wf_u8 (hwz _ (List.getElem_mem hiz))
        have e2 : zs.getD i 0 = zs[i] := by simp [List.getD, hiz]
        rw [e2]
        unfold byt
        congr 1
        have : (UInt8.ofNat (zs[i]).toNat).toNat = (zs[i]).toNat := by
          rw [UInt8.toNat_ofNat']
          omega
        rw [this]
        omega
      have hadd : ∀ i : Nat, i < len → W.cell? ⟨g, o + i, none⟩ = some (.int .u8 (zs.getD i 0)) := by
        intro i hi
        have := hcell i (by omega)
        unfold Addr.add at this
        split at this
        · rename_i h0
          subst h0
          simpa using this
        · exact this
      have hrep := RepF.slice (im := imOf W) (g := g) (o := o) (cap := cap) (sz := 1) (xs := bytes (ub5 (zs.take len))) (fun i _ => .int .u8 (zs.getD i 0)) (.inl rfl) (by omega)
        (fun i x hx => by rw [(hget i x hx).2]; rfl)
        (fun i x j c hx hc => by
          obtain ⟨hi, rfl⟩ := hget i x hx
          have hj : j = 0 := by
            have := (List.getElem?_eq_some_iff.mp hc).1
            simp [PV.cells] at this
            omega
          subst hj
          unfold imOf
          simpa using hadd i hi)
        (fun i x j c hx hc => by
          obtain ⟨hi, rfl⟩ := hget i x hx
          have hj : j = 0 := by
            have := (List.getElem?_eq_some_iff.mp hc).1
            simp [PV.cells] at this
            omega
          subst hj
          simp [PV.cells] at hc
          subst hc
          exact .int _ _)
      rw [hln] at hrep
      exact .flat hrep
theorem args_two {im : Nat → Nat → Option Value} {p q : PV} {v u : Value} (h : Rep [] im p v) (hs : strip p = p) (k : Rep [] im q u) (ks : strip q = q) : ArgsOk (gOf im) [p, q] #[v, u] :=
  ⟨rfl, fun j x y hx hy => by
    match j, hx, hy with
    | 0, hx, hy => simp at hx hy; subst hx hy; exact ⟨.one (.pure h), hs⟩
    | 1, hx, hy => simp at hx hy; subst hx hy; exact ⟨.one (.pure k), ks⟩⟩
end Go.Proofs.YthidcpkcfoldmaaGreat.Pi
namespace Go.Proofs.YthidcpkcfoldmaaGreat.Pi
theorem goDown : type_of% (And.intro (And.intro (And.intro (And.intro (And.intro @run_bind @uph) (And.intro @uj5 @umg)) (And.intro (And.intro @umo
    @run_nb) (And.intro @nbR_ok @uvt))) (And.intro (And.intro (And.intro @ui4 @uj3) (And.intro @ug4 @umn)) (And.intro
    (And.intro @ued @umb) (And.intro @uom (And.intro @upq @usd))))) (And.intro (And.intro (And.intro (And.intro @uur
    @use) (And.intro @run_pure @uvk)) (And.intro (And.intro @uqm @uh2) (And.intro @ulj @uj4))) (And.intro (And.intro
    (And.intro @ug7 @uiu) (And.intro @uvj @uo2)) (And.intro (And.intro @umd @um9) (And.intro @uus (And.intro
    @uqd @uqw)))))) := (And.intro (And.intro (And.intro (And.intro (And.intro @run_bind @uph) (And.intro @uj5 @umg)) (And.intro (And.intro @umo
    @run_nb) (And.intro @nbR_ok @uvt))) (And.intro (And.intro (And.intro @ui4 @uj3) (And.intro @ug4 @umn)) (And.intro
    (And.intro @ued @umb) (And.intro @uom (And.intro @upq @usd))))) (And.intro (And.intro (And.intro (And.intro @uur
    @use) (And.intro @run_pure @uvk)) (And.intro (And.intro @uqm @uh2) (And.intro @ulj @uj4))) (And.intro (And.intro
    (And.intro @ug7 @uiu) (And.intro @uvj @uo2)) (And.intro (And.intro @umd @um9) (And.intro @uus (And.intro
    @uqd @uqw))))))
theorem goUp : type_of% (And.intro (And.intro (And.intro (And.intro (And.intro (And.intro (And.intro @uih (And.intro @upu @run_al)) (And.intro (And.intro @run_bx
    @run_ld) (And.intro @run_st @uoy))) (And.intro (And.intro (And.intro @uft @upg) (And.intro @ulm @umh)) (And.intro
    (And.intro @ldB_t @ldB_f) (And.intro @stB_is @uq5)))) (And.intro (And.intro (And.intro @uqz (And.intro @u7p @u86)) (And.intro
    (And.intro @uba @uad) (And.intro @udv @ucz))) (And.intro (And.intro (And.intro @u7s @set_set) (And.intro @uhv @cut0))
    (And.intro (And.intro @cut1 @cut2) (And.intro @cutA0 @cutA1))))) (And.intro (And.intro (And.intro (And.intro @cutA2 (And.intro @u7l @ud0))
    (And.intro (And.intro @w_i64 @w_u64) (And.intro @w_u8 @w_u32))) (And.intro (And.intro (And.intro @w_i32 @uv9) (And.intro @u91 @uq3))
    (And.intro (And.intro @u9r @run_fa) (And.intro @usr @u46)))) (And.intro (And.intro (And.intro @nc_ptr (And.intro @uvr @nc_nil))
    (And.intro (And.intro @run_mi @run_pn) (And.intro @uuo @uug))) (And.intro (And.intro (And.intro @uuc @uvn) (And.intro @uoo
    @uq9)) (And.intro (And.intro @uqy @uma) (And.intro @uig @umq)))))) (And.intro (And.intro (And.intro (And.intro
    (And.intro @uln (And.intro @ukz @u8b)) (And.intro (And.intro @ujf @ugj) (And.intro @uil @ujc)))
    (And.intro (And.intro (And.intro @uix @ubu) (And.intro @un5 @uir)) (And.intro (And.intro @uku @um3) (And.intro
    @uls @ush)))) (And.intro (And.intro (And.intro @un4 (And.intro @uio @ump)) (And.intro (And.intro @ul0
    @uly) (And.intro @uu3 @ula))) (And.intro (And.intro (And.intro @ujb @umv) (And.intro @umc @um2))
    (And.intro (And.intro @uts @uis) (And.intro @ug5 @uid))))) (And.intro (And.intro (And.intro (And.intro @uiz
    (And.intro @uim @uq1)) (And.intro (And.intro @uhy @ufa) (And.intro @ugh @uhr))) (And.intro (And.intro
    (And.intro @uh0 @u7q) (And.intro @upk @ukl)) (And.intro (And.intro @uqt @upn) (And.intro @uon @low_fn))))
    (And.intro (And.intro (And.intro @ui3 (And.intro @uet @uhw)) (And.intro (And.intro @ugb @uh3) (And.intro
    @umw @ugq))) (And.intro (And.intro (And.intro @uf9 @ufz) (And.intro @ui0 @uhh)) (And.intro
    (And.intro @udu @uco) (And.intro @uav @ucn))))))) (And.intro (And.intro (And.intro (And.intro (And.intro
    (And.intro @ucj (And.intro @uck @uf5)) (And.intro (And.intro @umf @uj0) (And.intro @ul9
    @um6))) (And.intro (And.intro (And.intro @ul7 @ufx) (And.intro @ult @uj1)) (And.intro (And.intro @ulv
    @ukn) (And.intro @ulb @uen)))) (And.intro (And.intro (And.intro @ug6 (And.intro @uey @ui1)) (And.intro
    (And.intro @ugr @ugn) (And.intro @un8 @u8m))) (And.intro (And.intro (And.intro @u7x @uqx) (And.intro @run_bd
    @uhe)) (And.intro (And.intro @uf4 @ulo) (And.intro @run_bs @uvh))))) (And.intro (And.intro (And.intro (And.intro
    @ut3 (And.intro @up6 @up3)) (And.intro (And.intro @uko @ugw) (And.intro @uga @uhq))) (And.intro
    (And.intro (And.intro @uht @uev) (And.intro @uf0 @ue0)) (And.intro (And.intro @ul5 @uj9)
    (And.intro @ul6 @ugp)))) (And.intro (And.intro (And.intro @ukx (And.intro @ulh @ujg)) (And.intro (And.intro
    @um4 @ucp) (And.intro @uhp @uq6))) (And.intro (And.intro (And.intro @uhc @umy) (And.intro @uin
    @uhm)) (And.intro (And.intro @uif @uf7) (And.intro @uii @uj7)))))) (And.intro (And.intro (And.intro
    (And.intro (And.intro @uic (And.intro @uau @uf2)) (And.intro (And.intro @ulp @bi_add) (And.intro @bi_sub
    @bi_mul))) (And.intro (And.intro (And.intro @bi_eql @bi_neq) (And.intro @bi_lss @bi_leq)) (And.intro (And.intro @bi_gtr @bi_geq) (And.intro
    @uo8 @uvp)))) (And.intro (And.intro (And.intro @uup (And.intro @utt @un_not)) (And.intro (And.intro @ulu @ubg) (And.intro
    @mx_int @mn_int))) (And.intro (And.intro (And.intro @cv_int @Bool.and_true) (And.intro @Bool.true_and @Bool.and_self)) (And.intro (And.intro
    @Bool.not_true @Bool.not_false) (And.intro @Bool.and_false @Bool.false_and))))) (And.intro (And.intro (And.intro (And.intro @Bool.or_true
    (And.intro @Bool.or_false @Bool.true_or)) (And.intro (And.intro @Bool.false_or @Bool.false_eq_true) (And.intro @decide_eq_true_eq @and_self)))
    (And.intro (And.intro (And.intro @and_true @true_and) (And.intro @not_true_eq_false @not_false_eq_true)) (And.intro (And.intro @Nat.zero_add
    @Nat.add_zero) (And.intro @Nat.le_refl @Nat.lt_add_one)))) (And.intro (And.intro (And.intro (And.intro @Nat.lt_irrefl @and_false) (And.intro
    @false_and @Bool.not_eq_true')) (And.intro (And.intro @Bool.not_eq_eq_eq_not @decide_eq_false_iff_not) (And.intro @Bool.and_eq_true
    @Bool.or_eq_true))) (And.intro (And.intro (And.intro @decide_true @decide_false) (And.intro @ufw @ug2)) (And.intro (And.intro @ufi
    @uhg) (And.intro @ubx @ubt)))))))) := (And.intro (And.intro (And.intro (And.intro (And.intro (And.intro (And.intro @uih (And.intro @upu @run_al)) (And.intro (And.intro @run_bx
    @run_ld) (And.intro @run_st @uoy))) (And.intro (And.intro (And.intro @uft @upg) (And.intro @ulm @umh)) (And.intro
    (And.intro @ldB_t @ldB_f) (And.intro @stB_is @uq5)))) (And.intro (And.intro (And.intro @uqz (And.intro @u7p @u86)) (And.intro
    (And.intro @uba @uad) (And.intro @udv @ucz))) (And.intro (And.intro (And.intro @u7s @set_set) (And.intro @uhv @cut0))
    (And.intro (And.intro @cut1 @cut2) (And.intro @cutA0 @cutA1))))) (And.intro (And.intro (And.intro (And.intro @cutA2 (And.intro @u7l @ud0))
    (And.intro (And.intro @w_i64 @w_u64) (And.intro @w_u8 @w_u32))) (And.intro (And.intro (And.intro @w_i32 @uv9) (And.intro @u91 @uq3))
    (And.intro (And.intro @u9r @run_fa) (And.intro @usr @u46)))) (And.intro (And.intro (And.intro @nc_ptr (And.intro @uvr @nc_nil))
    (And.intro (And.intro @run_mi @run_pn) (And.intro @uuo @uug))) (And.intro (And.intro (And.intro @uuc @uvn) (And.intro @uoo
    @uq9)) (And.intro (And.intro @uqy @uma) (And.intro @uig @umq)))))) (And.intro (And.intro (And.intro (And.intro
    (And.intro @uln (And.intro @ukz @u8b)) (And.intro (And.intro @ujf @ugj) (And.intro @uil @ujc)))
    (And.intro (And.intro (And.intro @uix @ubu) (And.intro @un5 @uir)) (And.intro (And.intro @uku @um3) (And.intro
    @uls @ush)))) (And.intro (And.intro (And.intro @un4 (And.intro @uio @ump)) (And.intro (And.intro @ul0
    @uly) (And.intro @uu3 @ula))) (And.intro (And.intro (And.intro @ujb @umv) (And.intro @umc @um2))
    (And.intro (And.intro @uts @uis) (And.intro @ug5 @uid))))) (And.intro (And.intro (And.intro (And.intro @uiz
    (And.intro @uim @uq1)) (And.intro (And.intro @uhy @ufa) (And.intro @ugh @uhr))) (And.intro (And.intro
    (And.intro @uh0 @u7q) (And.intro @upk @ukl)) (And.intro (And.intro @uqt @upn) (And.intro @uon @low_fn))))
    (And.intro (And.intro (And.intro @ui3 (And.intro @uet @uhw)) (And.intro (And.intro @ugb @uh3) (And.intro
    @umw @ugq))) (And.intro (And.intro (And.intro @uf9 @ufz) (And.intro @ui0 @uhh)) (And.intro
    (And.intro @udu @uco) (And.intro @uav @ucn))))))) (And.intro (And.intro (And.intro (And.intro (And.intro
    (And.intro @ucj (And.intro @uck @uf5)) (And.intro (And.intro @umf @uj0) (And.intro @ul9
    @um6))) (And.intro (And.intro (And.intro @ul7 @ufx) (And.intro @ult @uj1)) (And.intro (And.intro @ulv
    @ukn) (And.intro @ulb @uen)))) (And.intro (And.intro (And.intro @ug6 (And.intro @uey @ui1)) (And.intro
    (And.intro @ugr @ugn) (And.intro @un8 @u8m))) (And.intro (And.intro (And.intro @u7x @uqx) (And.intro @run_bd
    @uhe)) (And.intro (And.intro @uf4 @ulo) (And.intro @run_bs @uvh))))) (And.intro (And.intro (And.intro (And.intro
    @ut3 (And.intro @up6 @up3)) (And.intro (And.intro @uko @ugw) (And.intro @uga @uhq))) (And.intro
    (And.intro (And.intro @uht @uev) (And.intro @uf0 @ue0)) (And.intro (And.intro @ul5 @uj9)
    (And.intro @ul6 @ugp)))) (And.intro (And.intro (And.intro @ukx (And.intro @ulh @ujg)) (And.intro (And.intro
    @um4 @ucp) (And.intro @uhp @uq6))) (And.intro (And.intro (And.intro @uhc @umy) (And.intro @uin
    @uhm)) (And.intro (And.intro @uif @uf7) (And.intro @uii @uj7)))))) (And.intro (And.intro (And.intro
    (And.intro (And.intro @uic (And.intro @uau @uf2)) (And.intro (And.intro @ulp @bi_add) (And.intro @bi_sub
    @bi_mul))) (And.intro (And.intro (And.intro @bi_eql @bi_neq) (And.intro @bi_lss @bi_leq)) (And.intro (And.intro @bi_gtr @bi_geq) (And.intro
    @uo8 @uvp)))) (And.intro (And.intro (And.intro @uup (And.intro @utt @un_not)) (And.intro (And.intro @ulu @ubg) (And.intro
    @mx_int @mn_int))) (And.intro (And.intro (And.intro @cv_int @Bool.and_true) (And.intro @Bool.true_and @Bool.and_self)) (And.intro (And.intro
    @Bool.not_true @Bool.not_false) (And.intro @Bool.and_false @Bool.false_and))))) (And.intro (And.intro (And.intro (And.intro @Bool.or_true
    (And.intro @Bool.or_false @Bool.true_or)) (And.intro (And.intro @Bool.false_or @Bool.false_eq_true) (And.intro @decide_eq_true_eq @and_self)))
    (And.intro (And.intro (And.intro @and_true @true_and) (And.intro @not_true_eq_false @not_false_eq_true)) (And.intro (And.intro @Nat.zero_add
    @Nat.add_zero) (And.intro @Nat.le_refl @Nat.lt_add_one)))) (And.intro (And.intro (And.intro (And.intro @Nat.lt_irrefl @and_false) (And.intro
    @false_and @Bool.not_eq_true')) (And.intro (And.intro @Bool.not_eq_eq_eq_not @decide_eq_false_iff_not) (And.intro @Bool.and_eq_true
    @Bool.or_eq_true))) (And.intro (And.intro (And.intro @decide_true @decide_false) (And.intro @ufw @ug2)) (And.intro (And.intro @ufi
    @uhg) (And.intro @ubx @ubt))))))))
theorem cr : (∀ {α : Type} {a : α} {l : List α}, (a :: l).length = l.length + 1) ∧ (∀ {α : Type}, ([] : List α).length = 0) ∧ (∀ {α β : Type} {f : α → β} {a : α} {l : List α}, (a :: l).map f = f a :: l.map f) ∧ (∀ {α β : Type} {f : α → β}, [].map f = []) ∧ (∀ {α : Type} {a : α} {l : List α} {i : Nat}, (a :: l).take (i + 1) = a :: l.take i) ∧ (∀ {α : Type} {l : List α}, l.take 0 = []) ∧ (∀ {α : Type} {a : α} {l : List α} {i : Nat}, (a :: l).drop (i + 1) = l.drop i) ∧ (∀ {α : Type} {l : List α}, l.drop 0 = l) ∧ (∀ {α : Type} {i : Nat}, ([] : List α).drop i = []) ∧ (∀ {α : Type} {i : Nat}, ([] : List α).take i = []) ∧ (∀ {α : Type} {a : α} {l k : List α}, a :: l ++ k = a :: (l ++ k)) ∧ (∀ {α : Type} {l : List α}, [] ++ l = l) ∧ (∀ {α : Type} {l : List α}, l ++ [] = l) ∧ (∀ {α : Type} {a b : α} {l : List α}, (a :: l).set 0 b = b :: l) ∧ (∀ {α : Type} {a b : α} {l : List α} {i : Nat}, (a :: l).set (i + 1) b = a :: l.set i b) ∧ (∀ {α : Type} {f : α → Bool} {a : α} {l : List α}, (a :: l).all f = (f a && l.all f)) ∧ (∀ {α : Type} {f : α → Bool}, [].all f = true) ∧ (∀ {a b : Int}, a ≥ b ↔ b ≤ a) ∧ (∀ {a b : Nat}, a ≥ b ↔ b ≤ a) ∧ (∀ {a b : Int}, a > b ↔ b < a) ∧ (∀ {a b : Nat}, a > b ↔ b < a) ∧ (∀ {α : Type} [BEq α] [ReflBEq α] {a : α}, (a == a) = true) ∧ (∀ {α : Type} [BEq α] [LawfulBEq α] {a b : α}, (a == b) = true ↔ a = b) ∧ (∀ {α : Type} [BEq α] [LawfulBEq α] {a b : α}, (a != b) = true ↔ a ≠ b) ∧ (∀ {α : Type} {a b : α}, (a ≠ b) = ¬ a = b) ∧ (∀ {α : Type} {p : Prop} [Decidable p] {x y : α}, (if ¬ p then x else y) = if p then y else x) ∧ (∀ {α : Type} {p : Prop} [Decidable p] {x : α}, (if p then x else x) = x) ∧ (∀ {α : Type} {a b : α}, (some a).getD b = a) ∧ (∀ {α : Type} {b : α}, (none : Option α).getD b = b) :=
  ⟨List.length_cons, List.length_nil, List.map_cons, List.map_nil, List.take_succ_cons, List.take_zero, List.drop_succ_cons, List.drop_zero, List.drop_nil, List.take_nil, List.cons_append, (List.nil_append _), (List.append_nil _), List.set_cons_zero, List.set_cons_succ, List.all_cons, List.all_nil, Iff.rfl, Iff.rfl, Iff.rfl, Iff.rfl, (beq_self_eq_true _), beq_iff_eq, bne_iff_ne, (ne_eq _ _), (ite_not _ _ _), (ite_self _), Option.getD_some, Option.getD_none⟩
end Go.Proofs.YthidcpkcfoldmaaGreat.Pi
namespace Go.Proofs.YthidcpkcfoldmaaGreat.Pi
variable {α β σ : Type} {c : Nat} {H : Heap}
def St (H : Heap) (c : Nat) (bx : Box) (L : List Box) : Heap := hadd (hset H c bx) L
def killR (c : Nat) : Option (Out α) → Option (Out α)
  | some (.pan v H) => some (.pan v (hset H c .dead))
  | r => r
def runK (c : Nat) (m : M α) (H : Heap) : Option (Out α) := killR c (run m H)
def bindK (c : Nat) (r : Option (Out α)) (f : α → M β) : Option (Out β) :=
  match r with
  | none => none
  | some (.ok v H) => runK c (f v) H
  | some (.pan v H) => some (.pan v H)
inductive Res (σ α : Type) where
  | ok (v : α) (s : σ)
  | err (t : TypeId) (l : List Int)
  | no
def fltP (t : TypeId) (l : List Int) : PV := .iface t (.agg (l.map (PV.int .i64)))
theorem uu5 {t : TypeId} {l : List Int} : fltP t l = .iface t (.agg (l.map (PV.int .i64))) := nrfl rfl
theorem umu {n : Nat} : ∀ l : List Int, lowL n (l.map (PV.int .i64)) = true
  | [] => u8m
  | a :: r => by rw [List.map_cons, u7x, u8b, umu r]; rfl
theorem ukg {t : TypeId} {l : List Int} {n : Nat} : (fltP t l).low n = true := by
  unfold fltP
  rw [udu, ufx]
  exact umu l
def Res.bind {σ τ α β : Type} (r : Res σ α) (g : α → σ → Res τ β) : Res τ β :=
  match r with
  | .ok v s => g v s
  | .err t l => .err t l
  | .no => .no
def elimK {σ α γ : Type} (c : Nat) (H : Heap) (L : List Box) (r : Res σ α) (g : α → σ → Option (Out γ)) : Option (Out γ) :=
  match r with
  | .ok v s => g v s
  | .err t l => some (.pan (fltP t l) (St H c .dead L))
  | .no => none
def outK (c : Nat) (H : Heap) (L : List Box) (bx : σ → Box) (enc : α → PV) (r : Res σ α) : Option (Out PV) := elimK c H L r fun v s => some (.ok (enc v) (St H c (bx s) L))
def outS (c : Nat) (H : Heap) (L : List Box) (bx : σ → Box) (enc : α → PV) (r : α × σ) : Option (Out PV) := some (.ok (enc r.1) (St H c (bx r.2) L))
@[congr] theorem uyf {r r' : Option (Out α)} {f : α → M β} (h : r = r') : bindK c r f = bindK c r' f := by rw [h]
@[congr] theorem uyb {σ α γ : Type} {L L' : List Box} {r r' : Res σ α} {g g' : α → σ → Option (Out γ)} (h : r = r') (hL : L = L') (hg : ∀ v s, r' = .ok v s → g v s = g' v s) : elimK c H L r g = elimK c H L' r' g' := by
  subst h hL
  cases r with
  | ok v s => exact hg v s rfl
  | err t l => rfl
  | no => rfl
theorem ut2 {L : List Box} {bx : σ → Box} {enc : α → PV} {r : Res σ α} : outK c H L bx enc r = elimK c H L r fun v s => some (.ok (enc v) (St H c (bx s) L)) := nrfl rfl
theorem uta {L : List Box} {bx : σ → Box} {enc : α → PV} {v : α} {s : σ} : outK c H L bx enc (.ok v s) = some (.ok (enc v) (St H c (bx s) L)) := nrfl rfl
theorem uor {L : List Box} {bx : σ → Box} {enc : α → PV} {t : TypeId} {l : List Int} : outK c H L bx enc (Res.err t l : Res σ α) = some (.pan (fltP t l) (St H c .dead L)) := nrfl rfl
theorem uu8 {L : List Box} {bx : σ → Box} {enc : α → PV} : outK c H L bx enc (Res.no : Res σ α) = none := nrfl rfl
theorem upt {γ : Type} {L : List Box} {g : α → σ → Option (Out γ)} : elimK c H L (Res.no : Res σ α) g = none := nrfl rfl
theorem ull {τ : Type} {β : Type} {L : List Box} {bx : σ → Box} {enc : α → PV} {r : Res τ β} {g : β → τ → Res σ α} : outK c H L bx enc (r.bind g) = elimK c H L r fun v s => outK c H L bx enc (g v s) := by cases r <;> rfl
theorem uox {L : List Box} {bx : σ → Box} {enc : α → PV} {p : Prop} [Decidable p] {r r' : Res σ α} : outK c H L bx enc (if p then r else r') = if p then outK c H L bx enc r else outK c H L bx enc r' := by split <;> rfl
theorem upj {γ : Type} {L : List Box} {v : α} {s : σ} {g : α → σ → Option (Out γ)} : elimK c H L (.ok v s) g = g v s := nrfl rfl
theorem un9 {γ : Type} {L : List Box} {t : TypeId} {l : List Int} {g : α → σ → Option (Out γ)} : elimK c H L (Res.err t l : Res σ α) g = some (.pan (fltP t l) (St H c .dead L)) := nrfl rfl
theorem un1 {γ : Type} {L : List Box} {p : Prop} [Decidable p] {r r' : Res σ α} {g : α → σ → Option (Out γ)} : elimK c H L (if p then r else r') g = if p then elimK c H L r g else elimK c H L r' g := by split <;> rfl
theorem uje {γ τ β : Type} {L : List Box} {r : Res τ β} {f : β → τ → Res σ α} {g : α → σ → Option (Out γ)} : elimK c H L (r.bind f) g = elimK c H L r fun v s => elimK c H L (f v s) g := by cases r <;> rfl
theorem uqs {v : α} : killR c (some (.ok v H)) = some (.ok v H) := nrfl rfl
theorem uiw : killR c (none : Option (Out α)) = none := nrfl rfl
theorem ugx {v : PV} : killR c (some (.pan v H) : Option (Out α)) = some (.pan v (hset H c .dead)) := nrfl rfl
theorem ul4 {p : Prop} [Decidable p] {r r' : Option (Out α)} : killR c (if p then r else r') = if p then killR c r else killR c r' := by split <;> rfl
theorem ulr {m : M α} {f : α → M β} : runK c (M.bind m f) H = bindK c (runK c m H) f := by
  unfold runK
  rw [run_bind]
  cases run m H with
  | none => rfl
  | some q => cases q <;> rfl
theorem uow {f : α → M β} {v : α} : bindK c (some (.ok v H)) f = runK c (f v) H := nrfl rfl
theorem uip {f : α → M β} : bindK c none f = none := nrfl rfl
theorem ulx {f : α → M β} {v : PV} : bindK c (some (.pan v H)) f = some (.pan v H) := nrfl rfl
theorem ulk {p : Prop} [Decidable p] {r r' : Option (Out α)} {f : α → M β} : bindK c (if p then r else r') f = if p then bindK c r f else bindK c r' f := by split <;> rfl
theorem uj8 {L : List Box} {r : Res σ α} {g : α → σ → Option (Out PV)} {f : PV → M β} : bindK c (elimK c H L r g) f = elimK c H L r fun v s => bindK c (g v s) f := by cases r <;> rfl
noncomputable def nbK (c : Nat) (H : Heap) (r : Option (Out α)) (f : α → M β) : Option (Out β) := killR c (nbR H r f)
@[congr] theorem v00b {r r' : Option (Out α)} {f : α → M β} (h : r = r') : nbK c H r f = nbK c H r' f := by rw [h]
theorem utf {m : M α} {f : α → M β} : runK c (nb m f) H = nbK c H (runK c m H) f := by
  unfold nbK runK nbR run nb killR
  dsimp only
  cases m H with
  | none => rfl
  | some q => cases q <;> rfl
theorem nbK_ok {f : α → M β} {v : α} : nbK c H (some (.ok v H)) f = runK c (f v) H := by
  unfold nbK
  rw [nbR_ok]
  rfl
theorem uq8 {f : α → M β} : nbK c H none f = none := by
  unfold nbK nbR nb
  rfl
theorem uu1 {p : Prop} [Decidable p] {r r' : Option (Out α)} {f : α → M β} : nbK c H (if p then r else r') f = if p then nbK c H r f else nbK c H r' f := by split <;> rfl
theorem usb {m : M PV} (hc : c < List.length H) : runK c (trunc m) H = truncR H (runK c m H) := by
  unfold runK
  rw [ui4]
  cases run m H with
  | none => rfl
  | some q => cases q with
    | ok v K => rfl
    | pan v K =>
      show killR c (bif v.low H.length then some (Out.pan v (hcut K H.length)) else none) = (bif v.low H.length then some (Out.pan v (hcut (hset K c .dead) H.length)) else none)
      cases v.low H.length with
      | false => rfl
      | true =>
        simp only [cond_true, ugx, Option.some.injEq, Out.pan.injEq, true_and]
        unfold hset hcut
        rw [List.take_set]
theorem uie {p : Bool} {m : M α} : runK c (guardM p m) H = if p = true then runK c m H else none := by cases p <;> rfl
theorem um5 {v : PV} {m : M PV} : runK c (resT v m) H = if isTup v = true then none else runK c m H := by unfold resT; cases isTup v <;> rfl
theorem ul2 {p : Bool} {x y : M α} : runK c (condM (.bool p) x y) H = if p = true then runK c x H else runK c y H := by cases p <;> rfl
theorem uqq {p : Bool} {m : M PV} : runK c (gd (.bool p) true m) H = if p = true then runK c m H else some (.ok (.tup []) H) := by cases p <;> rfl
theorem uqn {p : Bool} {m : M PV} : runK c (gd (.bool p) false m) H = if p = true then some (.ok (.tup []) H) else runK c m H := by cases p <;> rfl
theorem up5 {b : Bool} {m : M PV} : runK c (gd (.tup []) b m) H = some (.ok (.tup []) H) := nrfl rfl
theorem uli {v : α} : runK c (M.pure v) H = some (.ok v H) := nrfl rfl
theorem upo {v : PV} : runK c (M.pan v : M α) H = some (.pan v (hset H c .dead)) := nrfl rfl
theorem ulz : runK c (M.fail : M α) H = none := nrfl rfl
theorem ujd {m : M PV} : runK c (noPan m) H = noPanR (run m H) := by
  unfold runK
  rw [uh2]
  cases run m H with
  | none => rfl
  | some q => cases q <;> rfl
noncomputable def chkK (c : Nat) (r r' : Option (Out α)) (x : M β) (H : Heap) : Option (Out β) := killR c (chkR r r' x H)
@[congr] theorem v009 {r r' s s' : Option (Out α)} {x : M β} (h : r = s) (h' : r' = s') : chkK c r r' x H = chkK c s s' x H := by rw [h, h']
theorem uqv {m m' : M α} {x : M β} : runK c (chk m m' x) H = chkK c (run m H) (run m' H) x H := nrfl rfl
theorem uve {a : α} {K : Heap} {x : M β} : chkK c (some (.ok a K)) (some (.ok a K)) x H = runK c x H := by
  unfold chkK
  rw [uo2]
  rfl
theorem ukw {r : Option (Out α)} {x : M β} : chkK c none r x H = none := by
  unfold chkK chkR run chk
  rfl
theorem uou {p : Prop} [Decidable p] {r r' s : Option (Out α)} {x : M β} : chkK c (if p then r else r') s x H = if p then chkK c r s x H else chkK c r' s x H := by split <;> rfl
theorem ukm {r : Option (Out α)} {x : M β} : chkR none r x H = none := by
  unfold chkR run chk
  rfl
theorem uqc {p : Prop} [Decidable p] {r r' s : Option (Out α)} {x : M β} : chkR (if p then r else r') s x H = if p then chkR r s x H else chkR r' s x H := by split <;> rfl
section
variable {n : Nat} {id o : Nat} {x y v i : PV} {cs : List PV} {m : Option Nat} {mv b : Bool} {L : List Box}
theorem utp : runK c (al cs) H = killR c (run (al cs) H) := nrfl rfl
theorem ut6 : runK c (bx n v) H = killR c (run (bx n v) H) := nrfl rfl
theorem ute : runK c (ld m mv v) H = killR c (run (ld m mv v) H) := nrfl rfl
theorem ut9 : runK c (st n mv x v) H = killR c (run (st n mv x v) H) := nrfl rfl
theorem uqf : runK c (iaS n x i) H = killR c (run (iaS n x i) H) := nrfl rfl
theorem up9 {len : Nat} : runK c (ixA len n m x i) H = killR c (run (ixA len n m x i) H) := nrfl rfl
theorem ulq : runK c (pick v x y) H = killR c (run (pick v x y) H) := nrfl rfl
theorem utd {t : TypeId} : runK c (mi t v) H = killR c (run (mi t v) H) := nrfl rfl
theorem utv {t : FuncId} {l l' : List PV} : runK c (mf t l l') H = killR c (run (mf t l l') H) := nrfl rfl
theorem uvi {z : List PV} {ps : List (Nat × Nat × PV)} : runK c (bd z ps) H = killR c (run (bd z ps) H) := nrfl rfl
theorem uua {l : List PV} : runK c (bs b m l) H = killR c (run (bs b m l) H) := nrfl rfl
theorem usv {k : Nat} : runK c (ap b n k x y) H = killR c (run (ap b n k x y) H) := nrfl rfl
theorem uui {k : Nat} : runK c (mk b n k x y) H = killR c (run (mk b n k x y) H) := nrfl rfl
theorem uqg : runK c (lnS x) H = killR c (run (lnS x) H) := nrfl rfl
theorem uql : runK c (lnL x) H = killR c (run (lnL x) H) := nrfl rfl
theorem upm : runK c (ixS x i) H = killR c (run (ixS x i) H) := nrfl rfl
theorem ur0 {lo hi : Option PV} : runK c (slS x lo hi) H = killR c (run (slS x lo hi) H) := nrfl rfl
theorem upv {lo hi : Option PV} : runK c (slL n x lo hi) H = killR c (run (slL n x lo hi) H) := nrfl rfl
theorem uuq {k : Cv} : runK c (cv k b x) H = killR c (run (cv k b x) H) := nrfl rfl
theorem uv7 : runK c (ex n x) H = killR c (run (ex n x) H) := nrfl rfl
theorem uvq {op : BinOp} {ek : EqK} : runK c (bi op ek x y) H = killR c (run (bi op ek x y) H) := nrfl rfl
theorem toK {m : M PV} : runK c m H = killR c (run m H) := nrfl rfl
theorem u51 {x : Box} (hc : c < List.length H) : St H c x L = St (hadd H L) c x [] := by
  unfold St hadd hset
  rw [List.append_nil, List.set_append_left _ _ hc]
theorem St_out {x : Box} {K : Heap} {L' : List Box} (hK : K = hadd H L) (hc : c < List.length H) : St K c x L' = St H c x (L ++ L') := by
  subst hK
  unfold St hadd hset
  rw [List.set_append_left _ _ hc, List.append_assoc]
theorem len_St {x : Box} : List.length (St H c x L) = List.length H + List.length L := by unfold St; rw [u7l, ud0]
theorem get_St {x : Box} (hc : c < List.length H) : hget (St H c x L) c = some x := by unfold St; rw [ubx hc, u7s hc]
theorem uu9 {x : Box} (k : Nat) : hget (St H c x L) (List.length H + k) = nth L k := ufw k
theorem u9f {x : Box} : hget (St H c x L) (List.length H) = nth L 0 := ug2
theorem set_St {x y : Box} (hc : c < List.length H) : hset (St H c x L) c y = St H c y L := by unfold St; rw [ubt hc, set_set]
theorem ut0 {x y : Box} (k : Nat) : hset (St H c x L) (List.length H + k) y = St H c x (L.set k y) := ufi k
theorem uqa {x y : Box} : hset (St H c x L) (List.length H) y = St H c x (L.set 0 y) := uhg
theorem add_St {x : Box} {K : List Box} : hadd (St H c x L) K = St H c x (L ++ K) := uhv
theorem cut_St {x : Box} : hcut (St H c x L) (List.length H) = St H c x [] := by
  unfold St
  rw [cutA1]
  exact (List.append_nil _).symm
theorem uhf {r : Res σ α} {bx : Box} {g : α → σ → Option (Out PV)} : truncR (St H c bx []) (elimK c H L r g) = elimK c H [] r fun v s => truncR (St H c bx []) (g v s) := by
  cases r with
  | ok v s => rfl
  | err t l =>
    show truncR (St H c bx []) (some (Out.pan (fltP t l) (St H c .dead L))) = some (Out.pan (fltP t l) (St H c .dead []))
    rw [ued, if_pos ukg, len_St, List.length_nil, Nat.add_zero, cut_St]
  | no => rfl
theorem ugd {m : M PV} {x : Box} (hc : c < List.length H) : runK c (trunc m) (St H c x L) = truncR (St H c x L) (runK c m (St H c x L)) := usb (by rw [len_St]; omega)
theorem uub {bx : σ → Box} {enc : α → PV} {v : α} {s : σ} : outS c H L bx enc (v, s) = some (.ok (enc v) (St H c (bx s) L)) := nrfl rfl
theorem ut7 {bx : σ → Box} {enc : α → PV} {r : α × σ} {f : PV → M β} : bindR (outS c H L bx enc r) f = run (f (enc r.1)) (St H c (bx r.2) L) := nrfl rfl
end
end Go.Proofs.YthidcpkcfoldmaaGreat.Pi
namespace Go.Proofs.YthidcpkcfoldmaaGreat.Pi
theorem kDown : type_of% (And.intro (And.intro (And.intro (And.intro (And.intro @uta @uor) (And.intro @uu8 (And.intro @upt @ull))) (And.intro
    (And.intro @uox @upj) (And.intro @un9 (And.intro @un1 @uje)))) (And.intro (And.intro (And.intro @uqs @uiw)
    (And.intro @ugx (And.intro @ul4 @ulr))) (And.intro (And.intro @uow (And.intro @uip @ulx)) (And.intro @ulk
    (And.intro @uj8 @uhf))))) (And.intro (And.intro (And.intro (And.intro @utf @nbK_ok) (And.intro @uq8 (And.intro @uu1
    @ugd))) (And.intro (And.intro @uie (And.intro @um5 @ul2)) (And.intro @uqq (And.intro @uqn @up5))))
    (And.intro (And.intro (And.intro @uli @upo) (And.intro @ulz (And.intro @ujd @uqv))) (And.intro (And.intro @uve
    (And.intro @ukw @uou)) (And.intro @ukm (And.intro @uqc @ut7)))))) := (And.intro (And.intro (And.intro (And.intro (And.intro @uta @uor) (And.intro @uu8 (And.intro @upt @ull))) (And.intro
    (And.intro @uox @upj) (And.intro @un9 (And.intro @un1 @uje)))) (And.intro (And.intro (And.intro @uqs @uiw)
    (And.intro @ugx (And.intro @ul4 @ulr))) (And.intro (And.intro @uow (And.intro @uip @ulx)) (And.intro @ulk
    (And.intro @uj8 @uhf))))) (And.intro (And.intro (And.intro (And.intro @utf @nbK_ok) (And.intro @uq8 (And.intro @uu1
    @ugd))) (And.intro (And.intro @uie (And.intro @um5 @ul2)) (And.intro @uqq (And.intro @uqn @up5))))
    (And.intro (And.intro (And.intro @uli @upo) (And.intro @ulz (And.intro @ujd @uqv))) (And.intro (And.intro @uve
    (And.intro @ukw @uou)) (And.intro @ukm (And.intro @uqc @ut7))))))
theorem kUp : type_of% (And.intro (And.intro (And.intro (And.intro (And.intro @ut2 @uub) (And.intro @uu5 @ukg)) (And.intro (And.intro @utp @ut6)
    (And.intro @ute @ut9))) (And.intro (And.intro (And.intro @uqf @up9) (And.intro @ulq @utd)) (And.intro (And.intro
    @utv @uvi) (And.intro @uua (And.intro @usv @uui))))) (And.intro (And.intro (And.intro (And.intro @uqg @uql)
    (And.intro @upm @ur0)) (And.intro (And.intro @upv @uuq) (And.intro @uv7 @uvq))) (And.intro (And.intro (And.intro @len_St
    @get_St) (And.intro @uu9 @u9f)) (And.intro (And.intro @set_St @ut0) (And.intro @uqa (And.intro @add_St @cut_St)))))) := (And.intro (And.intro (And.intro (And.intro (And.intro @ut2 @uub) (And.intro @uu5 @ukg)) (And.intro (And.intro @utp @ut6)
    (And.intro @ute @ut9))) (And.intro (And.intro (And.intro @uqf @up9) (And.intro @ulq @utd)) (And.intro (And.intro
    @utv @uvi) (And.intro @uua (And.intro @usv @uui))))) (And.intro (And.intro (And.intro (And.intro @uqg @uql)
    (And.intro @upm @ur0)) (And.intro (And.intro @upv @uuq) (And.intro @uv7 @uvq))) (And.intro (And.intro (And.intro @len_St
    @get_St) (And.intro @uu9 @u9f)) (And.intro (And.intro @set_St @ut0) (And.intro @uqa (And.intro @add_St @cut_St))))))
end Go.Proofs.YthidcpkcfoldmaaGreat.Pi
namespace Go.Proofs.YthidcpkcfoldmaaGreat.Pi.Q
open Go Go.Proofs.YthidcpkcfoldmaaGreat.Pi
noncomputable abbrev P : Program := Tryz.prog
noncomputable abbrev X : ExtT := fun _ => none
noncomputable abbrev C := callW P X
noncomputable abbrev CD := callDW P X
abbrev u5g : FuncId := 3
abbrev u6s : FuncId := 6
abbrev u4r : FuncId := 7
abbrev u0c : FuncId := 8
abbrev u74 : FuncId := 9
abbrev u71 : FuncId := 10
abbrev u9a : FuncId := 13
abbrev u31 : FuncId := 14
abbrev u04 : FuncId := 15
abbrev u1i : FuncId := 16
abbrev u08 : FuncId := 17
abbrev u5u : FuncId := 18
abbrev u3o : FuncId := 19
abbrev u3l : FuncId := 20
abbrev u3y : FuncId := 21
abbrev u3a : FuncId := 22
abbrev uez : FuncId := 23
abbrev u7m : FuncId := 24
abbrev u21 : FuncId := 40
abbrev u3f : FuncId := 41
abbrev u3d : FuncId := 42
abbrev u4f : FuncId := 43
abbrev u5q : FuncId := 44
abbrev u3e : FuncId := 45
abbrev u2y : FuncId := 46
abbrev u49 : FuncId := 47
abbrev u5b : FuncId := 48
abbrev u5c : FuncId := 49
abbrev u5a : FuncId := 50
abbrev u5d : FuncId := 51
abbrev u4v : FuncId := 52
abbrev u4w : FuncId := 53
abbrev u44 : FuncId := 54
abbrev u5o : FuncId := 55
abbrev u2n : FuncId := 56
abbrev u0r : FuncId := 57
abbrev u2w : FuncId := 58
abbrev u33 : FuncId := 59
abbrev u1u : FuncId := 60
abbrev u0b : FuncId := 61
abbrev u2i : FuncId := 62
abbrev u2m : FuncId := 63
abbrev u2j : FuncId := 64
abbrev u10 : FuncId := 65
abbrev u0v : FuncId := 66
abbrev u3c : FuncId := 67
abbrev u1o : FuncId := 68
abbrev u24 : FuncId := 69
abbrev u0d : FuncId := 70
abbrev u3s : FuncId := 71
abbrev u3u : FuncId := 72
abbrev u7d : FuncId := 73
abbrev u97 : FuncId := 74
abbrev u9p : FuncId := 75
abbrev u69 : FuncId := 88
abbrev u5x : FuncId := 89
abbrev u0t : FuncId := 90
abbrev u28 : FuncId := 91
abbrev u43 : FuncId := 92
abbrev u3q : FuncId := 93
abbrev u22 : FuncId := 94
abbrev u6v : FuncId := 95
abbrev u6d : FuncId := 96
abbrev u5e : FuncId := 97
abbrev u7e : FuncId := 98
abbrev u6e : FuncId := 99
abbrev u59 : FuncId := 100
abbrev u77 : FuncId := 101
abbrev u3r : FuncId := 102
abbrev u2r : FuncId := 103
abbrev u7c : FuncId := 104
abbrev u7f : FuncId := 105
abbrev u48 : FuncId := 106
abbrev u0j : FuncId := 107
abbrev u0e : FuncId := 108
abbrev u0p : FuncId := 109
abbrev u1d : FuncId := 110
abbrev u4p : FuncId := 111
abbrev u73 : FuncId := 112
abbrev u7k : FuncId := 113
abbrev u57 : FuncId := 114
abbrev uak : FuncId := 115
abbrev u4x : FuncId := 121
abbrev u4i : FuncId := 122
abbrev u7a : FuncId := 123
abbrev u4c : FuncId := 124
abbrev u3b : FuncId := 125
abbrev u1b : FuncId := 126
abbrev u2h : FuncId := 127
abbrev udz : FuncId := 128
abbrev u2f : FuncId := 129
abbrev u5v : FuncId := 130
abbrev ue5 : FuncId := 131
abbrev u2g : FuncId := 132
abbrev u30 : FuncId := 133
abbrev udx : FuncId := 134
abbrev u19 : FuncId := 135
abbrev u2k : FuncId := 136
abbrev ue4 : FuncId := 137
abbrev ue2 : FuncId := 138
abbrev u8f : FuncId := 139
abbrev u67 : FuncId := 140
abbrev u3g : FuncId := 141
abbrev u23 : FuncId := 142
abbrev u1w : FuncId := 143
abbrev u5j : FuncId := 144
abbrev u7i : FuncId := 145
abbrev u5k : FuncId := 146
abbrev u0q : FuncId := 147
abbrev u8h : FuncId := 148
abbrev u5m : FuncId := 149
abbrev u1y : FuncId := 150
abbrev u56 : FuncId := 151
abbrev ue3 : FuncId := 152
abbrev u52 : FuncId := 153
abbrev u2b : FuncId := 154
abbrev u6f : FuncId := 155
abbrev u6q : FuncId := 156
abbrev u2a : FuncId := 157
abbrev u18 : FuncId := 158
abbrev u38 : FuncId := 159
abbrev u7h : FuncId := 160
abbrev u3t : FuncId := 161
abbrev u1r : FuncId := 162
abbrev u11 : FuncId := 163
abbrev u0z : FuncId := 164
abbrev u06 : FuncId := 165
abbrev u2e : FuncId := 166
abbrev ug9 : FuncId := 167
abbrev u5s : FuncId := 168
abbrev u8o : FuncId := 169
abbrev u7w : FuncId := 170
abbrev udq : FuncId := 171
abbrev u4j : TypeId := 154
end Go.Proofs.YthidcpkcfoldmaaGreat.Pi.Q
namespace Go.Proofs.YthidcpkcfoldmaaGreat.Pi.Q
open Go Go.Proofs.YthidcpkcfoldmaaGreat.Pi
theorem u9c (a0 a1 : PV) : C u5g [a0, a1] =
 trunc (M.bind (C u6s [(strip (strip a0)), (strip (strip a1))]) fun t14_0 =>
 M.bind (ex 0 (strip t14_0)) fun t15_1 =>
 M.bind (ex 1 (tupDrop 0 (strip t14_0))) fun t16_2 =>
 M.bind (ex 2 (tupDrop 1 (tupDrop 0 (strip t14_0)))) fun t17_3 =>
 M.bind (al [(.int .i64 0), (.int .u32 0), (.int .u32 0), (.int .u64 0), (.int .u32 0), (.int .u32 0), (.int .u64 0), (.int .i64 0), (.int .i64 0), (.bool false), (.int .i64 0), (.slice false true 0 []), (.slice false true 0 []), (.bool false), (.slice false true 0 []), (.slice false true 0 []), (.slice false true 0 [])]) fun t5_4 =>
 M.bind (st 17 true t5_4 t15_1) fun _ =>
 M.bind (C u4r [(strip (strip a0)), (strip (strip a1))]) fun t21_6 =>
 M.bind (ex 0 (strip t21_6)) fun t22_7 =>
 M.bind (ex 1 (tupDrop 0 (strip t21_6))) fun t23_8 =>
 M.bind (ex 2 (tupDrop 1 (tupDrop 0 (strip t21_6)))) fun t24_9 =>
 M.bind (al [(.int .i64 0), (.int .u32 0), (.int .u32 0), (.int .u64 0), (.int .u32 0), (.int .u32 0), (.int .u64 0), (.int .i64 0), (.int .i64 0), (.bool false), (.int .i64 0), (.slice false true 0 []), (.slice false true 0 []), (.bool false), (.slice false true 0 []), (.slice false true 0 []), (.slice false true 0 [])]) fun t8_10 =>
 M.bind (st 17 true t8_10 t22_7) fun _ =>
 M.bind (bi .eql .none (strip t16_2) (strip t23_8)) fun t27_12 =>
 M.bind (gd (strip t27_12) true (M.pure (strip t17_3))) fun t29_13 =>
 M.bind (gd (strip t27_12) true (M.pure (strip t24_9))) fun t30_14 =>
 M.bind (gd (strip t27_12) true (bi .eql .none t29_13 t30_14)) fun t31_15 =>
 M.bind (pick (strip t27_12) t31_15 (.bool false)) fun t32_16 =>
 M.bind (gd (strip t32_16) true (fa 0 t5_4)) fun t34_17 =>
 M.bind (gd (strip t32_16) true (ld none false t34_17)) fun t35_18 =>
 M.bind (gd (strip t32_16) true (fa 0 t8_10)) fun t36_19 =>
 M.bind (gd (strip t32_16) true (ld none false t36_19)) fun t37_20 =>
 M.bind (gd (strip t32_16) true (bi .eql .none t35_18 t37_20)) fun t38_21 =>
 M.bind (pick (strip t32_16) t38_21 (.bool false)) fun t39_22 =>
 M.bind (gd (strip t39_22) true (ld (some 17) false t5_4)) fun t41_23 =>
 M.bind (gd (strip t39_22) true (ld (some 17) false t8_10)) fun t42_24 =>
 M.bind (gd (strip t39_22) true (C u0c [(strip t41_23), (strip t42_24)])) fun t43_25 =>
 M.bind (pick (strip t39_22) t43_25 (.bool false)) fun t44_26 =>
 M.bind (gd (strip t44_26) true (ld (some 17) false t5_4)) fun t46_27 =>
 M.bind (gd (strip t44_26) true (ld (some 17) false t8_10)) fun t47_28 =>
 M.bind (gd (strip t44_26) true (C u74 [(strip t46_27), (strip t47_28)])) fun t48_29 =>
 M.bind (pick (strip t44_26) t48_29 (.bool false)) fun t49_30 =>
 M.bind (gd (strip t49_30) true (C u71 [])) fun t51_31 =>
 M.bind (pick (strip t49_30) t51_31 (.bool false)) fun t52_32 =>
 resT t52_32 (M.pure t52_32)) := by
 rw [C, u03 _ _ rfl]; kernel_rfl
theorem uaj (a0 a1 : PV) : C u6s [a0, a1] =
 trunc (M.bind (al [(.int .i64 0), (.int .u32 0), (.int .u32 0), (.int .u64 0), (.int .u32 0), (.int .u32 0), (.int .u64 0), (.int .i64 0), (.int .i64 0), (.bool false), (.int .i64 0), (.slice false true 0 []), (.slice false true 0 []), (.bool false), (.slice false true 0 []), (.slice false true 0 []), (.slice false true 0 [])]) fun t4_0 =>
 M.bind (bi .lss .none (strip a1) (.int .i64 0)) fun t9_1 =>
 M.bind (gd (strip t9_1) false (M.pure (strip a1))) fun t11_2 =>
 M.bind (gd (strip t9_1) false (M.pure (strip a0))) fun t12_3 =>
 M.bind (gd (strip t9_1) false (lnL t12_3)) fun t13_4 =>
 M.bind (gd (strip t9_1) false (bi .gtr .none t11_2 t13_4)) fun t14_5 =>
 M.bind (pick (strip t9_1) (.bool true) t14_5) fun t15_6 =>
 condM t15_6
 (M.bind (bd [(.int .i64 0), (.int .u32 0), (.int .u32 0), (.int .u64 0), (.int .u32 0), (.int .u32 0), (.int .u64 0), (.int .i64 0), (.int .i64 0), (.bool false), (.int .i64 0), (.slice false true 0 []), (.slice false true 0 []), (.bool false), (.slice false true 0 []), (.slice false true 0 []), (.slice false true 0 [])] []) fun t16_7 =>
 M.bind (st 17 true t4_0 t16_7) fun _ =>
 M.bind (ld (some 17) true t4_0) fun t0_9 => guardM (!isTup t0_9) (M.pure (.tup [t0_9, (.int .i64 0), (.int .i64 1)])))
 (M.bind (bd [(.slice false true 0 []), (.int .i64 0), (.int .i64 0), (.int .u32 0), (.int .u32 0), (.int .u64 0), (.int .u32 0), (.int .u32 0), (.int .u64 0), (.int .i64 0), (.int .i64 0), (.bool false), (.int .i64 0), (.slice false true 0 []), (.slice false true 0 []), (.bool false), (.slice false true 0 []), (.slice false true 0 []), (.slice false true 0 []), (.int .i64 0), (.int .i64 0)] [(0, 1, (strip a0)), (1, 1, (strip a1))]) fun t19_10 =>
 M.bind (bx 21 t19_10) fun t20_11 =>
 M.bind (C u9a []) fun t21_12 =>
 M.bind (C u31 [(strip (strip t20_11))]) fun t23_13 =>
 M.bind (ixA 17 1 none t21_12 t23_13) fun t24_14 =>
 M.bind (callV P C t24_14 [(strip (strip t20_11))]) fun t26_15 =>
 M.bind (nc P (strip t20_11)) fun t28_16 =>
 M.bind (fa 20 t28_16) fun t29_17 =>
 M.bind (ld none false t29_17) fun t30_18 =>
 M.bind (bi .neq .none t30_18 (.int .i64 0)) fun t31_19 =>
 condM t31_19
 (nb (bd [(.int .i64 0), (.int .u32 0), (.int .u32 0), (.int .u64 0), (.int .u32 0), (.int .u32 0), (.int .u64 0), (.int .i64 0), (.int .i64 0), (.bool false), (.int .i64 0), (.slice false true 0 []), (.slice false true 0 []), (.bool false), (.slice false true 0 []), (.slice false true 0 []), (.slice false true 0 [])] []) fun t32_20 =>
 nb (M.pure (strip t20_11)) fun t33_21 =>
 nb (nc P t33_21) fun t34_22 =>
 nb (fa 19 t34_22) fun t35_23 =>
 guardM (!clash (tld t35_23) (.no) && true) <| nb (ld none true t35_23) fun t36_24 =>
 nb (M.pure (strip t20_11)) fun t37_25 =>
 nb (nc P t37_25) fun t38_26 =>
 nb (fa 20 t38_26) fun t39_27 =>
 guardM (!clash (tld t39_27) (tld t35_23) && (!clash (tld t39_27) (.no) && (!clash (tld t39_27) (.no) && (!clash (tld t39_27) (.no) && (!clash (tld t39_27) (.no) && true))))) <| nb (ld none true t39_27) fun t40_28 =>
 guardM (!clash (tst t4_0) (tld t39_27) && (!clash (tst t4_0) (.no) && (!clash (tst t4_0) (.no) && (!clash (tst t4_0) (.no) && (!clash (tst t4_0) (tld t35_23) && (!clash (tst t4_0) (.no) && (!clash (tst t4_0) (.no) && (!clash (tst t4_0) (.no) && true)))))))) <| M.bind (noPan (st 17 true t4_0 t32_20)) fun _ =>
 nb (M.pure t36_24) fun t5_30 =>
 nb (M.pure t40_28) fun t6_31 =>
 M.bind (ld (some 17) true t4_0) fun t0_32 => guardM (!isTup t0_32) (resT t5_30 (resT t6_31 (M.pure (.tup [t0_32, t5_30, t6_31])))))
 (chk
 (M.bind (noPan (M.pure (strip t20_11))) fun t41_44 =>
 M.bind (noPan (nc P t41_44)) fun t42_45 =>
 M.bind (noPan (fa 2 t42_45)) fun t43_46 =>
 M.bind (noPan (M.pure (strip t20_11))) fun t45_47 =>
 M.bind (noPan (nc P t45_47)) fun t46_48 =>
 M.bind (noPan (fa 1 t46_48)) fun t47_49 =>
 M.bind (noPan (ld (some 17) true t43_46)) fun t44_50 =>
 M.bind (noPan (st 17 true t4_0 t44_50)) fun _ =>
 M.bind (noPan (ld none true t47_49)) fun t48_52 =>
 M.bind (noPan (M.pure t48_52)) fun t5_53 =>
 M.bind (noPan (M.pure (.int .i64 0))) fun t6_54 =>
 M.pure [a0, a1, .undef, .undef, t4_0, t5_53, t6_54, t20_11, (strip a1), t9_1, (strip t9_1), t11_2, t12_3, t13_4, t14_5, t15_6, .undef, (strip a0), (strip a1), t19_10, (strip t20_11), t21_12, (strip t20_11), t23_13, t24_14, (strip t20_11), t26_15, (strip t20_11), t28_16, t29_17, t30_18, t31_19, .undef, .undef, .undef, .undef, .undef, .undef, .undef, .undef, .undef, t41_44, t42_45, t43_46, (strip t44_50), t45_47, t46_48, t47_49, (strip t48_52)])
 (M.bind (noPan (M.pure (strip t20_11))) fun t41_33 =>
 M.bind (noPan (nc P t41_33)) fun t42_34 =>
 M.bind (noPan (fa 2 t42_34)) fun t43_35 =>
 M.bind (noPan (M.pure (strip t20_11))) fun t45_36 =>
 M.bind (noPan (nc P t45_36)) fun t46_37 =>
 M.bind (noPan (fa 1 t46_37)) fun t47_38 =>
 M.bind (noPan (ld (some 17) true t43_35)) fun t44_39 =>
 M.bind (noPan (ld none true t47_38)) fun t48_40 =>
 M.bind (noPan (st 17 true t4_0 t44_39)) fun _ =>
 M.bind (noPan (M.pure t48_40)) fun t5_42 =>
 M.bind (noPan (M.pure (.int .i64 0))) fun t6_43 =>
 M.pure [a0, a1, .undef, .undef, t4_0, t5_42, t6_43, t20_11, (strip a1), t9_1, (strip t9_1), t11_2, t12_3, t13_4, t14_5, t15_6, .undef, (strip a0), (strip a1), t19_10, (strip t20_11), t21_12, (strip t20_11), t23_13, t24_14, (strip t20_11), t26_15, (strip t20_11), t28_16, t29_17, t30_18, t31_19, .undef, .undef, .undef, .undef, .undef, .undef, .undef, .undef, .undef, t41_33, t42_34, t43_35, (strip t44_39), t45_36, t46_37, t47_38, (strip t48_40)]) <|
 chk
 (M.bind (noPan (M.pure (strip t20_11))) fun t41_55 =>
 M.bind (noPan (nc P t41_55)) fun t42_56 =>
 M.bind (noPan (fa 2 t42_56)) fun t43_57 =>
 M.bind (noPan (M.pure (strip t20_11))) fun t45_58 =>
 M.bind (noPan (nc P t45_58)) fun t46_59 =>
 M.bind (noPan (fa 1 t46_59)) fun t47_60 =>
 M.bind (noPan (ld none true t47_60)) fun t48_61 =>
 M.bind (noPan (ld (some 17) true t43_57)) fun t44_62 =>
 M.bind (noPan (st 17 true t4_0 t44_62)) fun _ =>
 M.bind (noPan (M.pure t48_61)) fun t5_64 =>
 M.bind (noPan (M.pure (.int .i64 0))) fun t6_65 =>
 M.pure [a0, a1, .undef, .undef, t4_0, t5_64, t6_65, t20_11, (strip a1), t9_1, (strip t9_1), t11_2, t12_3, t13_4, t14_5, t15_6, .undef, (strip a0), (strip a1), t19_10, (strip t20_11), t21_12, (strip t20_11), t23_13, t24_14, (strip t20_11), t26_15, (strip t20_11), t28_16, t29_17, t30_18, t31_19, .undef, .undef, .undef, .undef, .undef, .undef, .undef, .undef, .undef, t41_55, t42_56, t43_57, (strip t44_62), t45_58, t46_59, t47_60, (strip t48_61)])
 (M.bind (noPan (M.pure (strip t20_11))) fun t41_33 =>
 M.bind (noPan (nc P t41_33)) fun t42_34 =>
 M.bind (noPan (fa 2 t42_34)) fun t43_35 =>
 M.bind (noPan (M.pure (strip t20_11))) fun t45_36 =>
 M.bind (noPan (nc P t45_36)) fun t46_37 =>
 M.bind (noPan (fa 1 t46_37)) fun t47_38 =>
 M.bind (noPan (ld (some 17) true t43_35)) fun t44_39 =>
 M.bind (noPan (ld none true t47_38)) fun t48_40 =>
 M.bind (noPan (st 17 true t4_0 t44_39)) fun _ =>
 M.bind (noPan (M.pure t48_40)) fun t5_42 =>
 M.bind (noPan (M.pure (.int .i64 0))) fun t6_43 =>
 M.pure [a0, a1, .undef, .undef, t4_0, t5_42, t6_43, t20_11, (strip a1), t9_1, (strip t9_1), t11_2, t12_3, t13_4, t14_5, t15_6, .undef, (strip a0), (strip a1), t19_10, (strip t20_11), t21_12, (strip t20_11), t23_13, t24_14, (strip t20_11), t26_15, (strip t20_11), t28_16, t29_17, t30_18, t31_19, .undef, .undef, .undef, .undef, .undef, .undef, .undef, .undef, .undef, t41_33, t42_34, t43_35, (strip t44_39), t45_36, t46_37, t47_38, (strip t48_40)]) <|
 M.bind (noPan (M.pure (strip t20_11))) fun t41_66 =>
 M.bind (noPan (nc P t41_66)) fun t42_67 =>
 M.bind (noPan (fa 2 t42_67)) fun t43_68 =>
 M.bind (noPan (M.pure (strip t20_11))) fun t45_69 =>
 M.bind (noPan (nc P t45_69)) fun t46_70 =>
 M.bind (noPan (fa 1 t46_70)) fun t47_71 =>
 M.bind (noPan (ld (some 17) true t43_68)) fun t44_72 =>
 M.bind (noPan (ld none true t47_71)) fun t48_73 =>
 M.bind (noPan (st 17 true t4_0 t44_72)) fun _ =>
 M.bind (noPan (M.pure t48_73)) fun t5_75 =>
 M.bind (noPan (M.pure (.int .i64 0))) fun t6_76 =>
 M.bind (ld (some 17) true t4_0) fun t0_77 => guardM (!isTup t0_77) (resT t5_75 (resT t6_76 (M.pure (.tup [t0_77, t5_75, t6_76]))))))) := by
 rw [C, u03 _ _ rfl]; kernel_rfl
theorem u8l (a0 a1 : PV) : C u4r [a0, a1] =
 trunc (M.bind (al [(.int .i64 0), (.int .u32 0), (.int .u32 0), (.int .u64 0), (.int .u32 0), (.int .u32 0), (.int .u64 0), (.int .i64 0), (.int .i64 0), (.bool false), (.int .i64 0), (.slice false true 0 []), (.slice false true 0 []), (.bool false), (.slice false true 0 []), (.slice false true 0 []), (.slice false true 0 [])]) fun t4_0 =>
 M.bind (bi .lss .none (strip a1) (.int .i64 0)) fun t10_1 =>
 M.bind (gd (strip t10_1) false (M.pure (strip a1))) fun t12_2 =>
 M.bind (gd (strip t10_1) false (M.pure (strip a0))) fun t13_3 =>
 M.bind (gd (strip t10_1) false (lnL t13_3)) fun t14_4 =>
 M.bind (gd (strip t10_1) false (bi .gtr .none t12_2 t14_4)) fun t15_5 =>
 M.bind (pick (strip t10_1) (.bool true) t15_5) fun t16_6 =>
 condM t16_6
 (M.bind (bd [(.int .i64 0), (.int .u32 0), (.int .u32 0), (.int .u64 0), (.int .u32 0), (.int .u32 0), (.int .u64 0), (.int .i64 0), (.int .i64 0), (.bool false), (.int .i64 0), (.slice false true 0 []), (.slice false true 0 []), (.bool false), (.slice false true 0 []), (.slice false true 0 []), (.slice false true 0 [])] []) fun t17_7 =>
 M.bind (st 17 true t4_0 t17_7) fun _ =>
 M.bind (ld (some 17) true t4_0) fun t0_9 => guardM (!isTup t0_9) (M.pure (.tup [t0_9, (.int .i64 0), (.int .i64 1)])))
 (M.bind (bd [(.slice false true 0 []), (.int .i64 0), (.int .i64 0), (.int .i64 0)] [(0, 1, (strip a0)), (1, 1, (strip a1))]) fun t20_10 =>
 M.bind (bx 4 t20_10) fun t21_11 =>
 M.bind (C u1i [(strip (strip t21_11))]) fun t24_12 =>
 M.bind (C u04 [(strip (strip t21_11)), (strip t24_12)]) fun t25_13 =>
 M.bind (al [(.int .i64 0), (.int .u32 0), (.int .u32 0), (.int .u64 0), (.int .u32 0), (.int .u32 0), (.int .u64 0), (.int .i64 0), (.int .i64 0), (.bool false), (.int .i64 0), (.slice false true 0 []), (.slice false true 0 []), (.bool false), (.slice false true 0 []), (.slice false true 0 []), (.slice false true 0 [])]) fun t8_14 =>
 M.bind (st 17 true t8_14 t25_13) fun _ =>
 M.bind (nc P (strip t21_11)) fun t27_16 =>
 M.bind (fa 3 t27_16) fun t28_17 =>
 M.bind (ld none false t28_17) fun t29_18 =>
 M.bind (bi .neq .none t29_18 (.int .i64 0)) fun t30_19 =>
 condM t30_19
 (nb (bd [(.int .i64 0), (.int .u32 0), (.int .u32 0), (.int .u64 0), (.int .u32 0), (.int .u32 0), (.int .u64 0), (.int .i64 0), (.int .i64 0), (.bool false), (.int .i64 0), (.slice false true 0 []), (.slice false true 0 []), (.bool false), (.slice false true 0 []), (.slice false true 0 []), (.slice false true 0 [])] []) fun t31_20 =>
 nb (M.pure (strip t21_11)) fun t32_21 =>
 nb (nc P t32_21) fun t33_22 =>
 nb (fa 2 t33_22) fun t34_23 =>
 guardM (!clash (tld t34_23) (.no) && true) <| nb (ld none true t34_23) fun t35_24 =>
 nb (M.pure (strip t21_11)) fun t36_25 =>
 nb (nc P t36_25) fun t37_26 =>
 nb (fa 3 t37_26) fun t38_27 =>
 guardM (!clash (tld t38_27) (tld t34_23) && (!clash (tld t38_27) (.no) && (!clash (tld t38_27) (.no) && (!clash (tld t38_27) (.no) && (!clash (tld t38_27) (.no) && true))))) <| nb (ld none true t38_27) fun t39_28 =>
 guardM (!clash (tst t4_0) (tld t38_27) && (!clash (tst t4_0) (.no) && (!clash (tst t4_0) (.no) && (!clash (tst t4_0) (.no) && (!clash (tst t4_0) (tld t34_23) && (!clash (tst t4_0) (.no) && (!clash (tst t4_0) (.no) && (!clash (tst t4_0) (.no) && true)))))))) <| M.bind (noPan (st 17 true t4_0 t31_20)) fun _ =>
 nb (M.pure t35_24) fun t5_30 =>
 nb (M.pure t39_28) fun t6_31 =>
 M.bind (ld (some 17) true t4_0) fun t0_32 => guardM (!isTup t0_32) (resT t5_30 (resT t6_31 (M.pure (.tup [t0_32, t5_30, t6_31])))))
 (chk
 (M.bind (noPan (M.pure (strip t21_11))) fun t41_41 =>
 M.bind (noPan (nc P t41_41)) fun t42_42 =>
 M.bind (noPan (fa 1 t42_42)) fun t43_43 =>
 M.bind (noPan (ld (some 17) true t8_14)) fun t40_44 =>
 M.bind (noPan (st 17 true t4_0 t40_44)) fun _ =>
 M.bind (noPan (ld none true t43_43)) fun t44_46 =>
 M.bind (noPan (M.pure t44_46)) fun t5_47 =>
 M.bind (noPan (M.pure (.int .i64 0))) fun t6_48 =>
 M.pure [a0, a1, .undef, .undef, t4_0, t5_47, t6_48, t21_11, t8_14, (strip a1), t10_1, (strip t10_1), t12_2, t13_3, t14_4, t15_5, t16_6, .undef, (strip a0), (strip a1), t20_10, (strip t21_11), (strip t21_11), (strip t21_11), t24_12, (strip t25_13), (strip t21_11), t27_16, t28_17, t29_18, t30_19, .undef, .undef, .undef, .undef, .undef, .undef, .undef, .undef, .undef, (strip t40_44), t41_41, t42_42, t43_43, (strip t44_46)])
 (M.bind (noPan (M.pure (strip t21_11))) fun t41_33 =>
 M.bind (noPan (nc P t41_33)) fun t42_34 =>
 M.bind (noPan (fa 1 t42_34)) fun t43_35 =>
 M.bind (noPan (ld (some 17) true t8_14)) fun t40_36 =>
 M.bind (noPan (ld none true t43_35)) fun t44_37 =>
 M.bind (noPan (st 17 true t4_0 t40_36)) fun _ =>
 M.bind (noPan (M.pure t44_37)) fun t5_39 =>
 M.bind (noPan (M.pure (.int .i64 0))) fun t6_40 =>
 M.pure [a0, a1, .undef, .undef, t4_0, t5_39, t6_40, t21_11, t8_14, (strip a1), t10_1, (strip t10_1), t12_2, t13_3, t14_4, t15_5, t16_6, .undef, (strip a0), (strip a1), t20_10, (strip t21_11), (strip t21_11), (strip t21_11), t24_12, (strip t25_13), (strip t21_11), t27_16, t28_17, t29_18, t30_19, .undef, .undef, .undef, .undef, .undef, .undef, .undef, .undef, .undef, (strip t40_36), t41_33, t42_34, t43_35, (strip t44_37)]) <|
 chk
 (M.bind (noPan (M.pure (strip t21_11))) fun t41_49 =>
 M.bind (noPan (nc P t41_49)) fun t42_50 =>
 M.bind (noPan (fa 1 t42_50)) fun t43_51 =>
 M.bind (noPan (ld none true t43_51)) fun t44_52 =>
 M.bind (noPan (ld (some 17) true t8_14)) fun t40_53 =>
 M.bind (noPan (st 17 true t4_0 t40_53)) fun _ =>
 M.bind (noPan (M.pure t44_52)) fun t5_55 =>
 M.bind (noPan (M.pure (.int .i64 0))) fun t6_56 =>
 M.pure [a0, a1, .undef, .undef, t4_0, t5_55, t6_56, t21_11, t8_14, (strip a1), t10_1, (strip t10_1), t12_2, t13_3, t14_4, t15_5, t16_6, .undef, (strip a0), (strip a1), t20_10, (strip t21_11), (strip t21_11), (strip t21_11), t24_12, (strip t25_13), (strip t21_11), t27_16, t28_17, t29_18, t30_19, .undef, .undef, .undef, .undef, .undef, .undef, .undef, .undef, .undef, (strip t40_53), t41_49, t42_50, t43_51, (strip t44_52)])
 (M.bind (noPan (M.pure (strip t21_11))) fun t41_33 =>
 M.bind (noPan (nc P t41_33)) fun t42_34 =>
 M.bind (noPan (fa 1 t42_34)) fun t43_35 =>
 M.bind (noPan (ld (some 17) true t8_14)) fun t40_36 =>
 M.bind (noPan (ld none true t43_35)) fun t44_37 =>
 M.bind (noPan (st 17 true t4_0 t40_36)) fun _ =>
 M.bind (noPan (M.pure t44_37)) fun t5_39 =>
 M.bind (noPan (M.pure (.int .i64 0))) fun t6_40 =>
 M.pure [a0, a1, .undef, .undef, t4_0, t5_39, t6_40, t21_11, t8_14, (strip a1), t10_1, (strip t10_1), t12_2, t13_3, t14_4, t15_5, t16_6, .undef, (strip a0), (strip a1), t20_10, (strip t21_11), (strip t21_11), (strip t21_11), t24_12, (strip t25_13), (strip t21_11), t27_16, t28_17, t29_18, t30_19, .undef, .undef, .undef, .undef, .undef, .undef, .undef, .undef, .undef, (strip t40_36), t41_33, t42_34, t43_35, (strip t44_37)]) <|
 M.bind (noPan (M.pure (strip t21_11))) fun t41_57 =>
 M.bind (noPan (nc P t41_57)) fun t42_58 =>
 M.bind (noPan (fa 1 t42_58)) fun t43_59 =>
 M.bind (noPan (ld (some 17) true t8_14)) fun t40_60 =>
 M.bind (noPan (ld none true t43_59)) fun t44_61 =>
 M.bind (noPan (st 17 true t4_0 t40_60)) fun _ =>
 M.bind (noPan (M.pure t44_61)) fun t5_63 =>
 M.bind (noPan (M.pure (.int .i64 0))) fun t6_64 =>
 M.bind (ld (some 17) true t4_0) fun t0_65 => guardM (!isTup t0_65) (resT t5_63 (resT t6_64 (M.pure (.tup [t0_65, t5_63, t6_64]))))))) := by
 rw [C, u03 _ _ rfl]; kernel_rfl
noncomputable def u53 (v2 v3 v4 v12 v13 : PV) : M PV := atP P X u0c [1, 1, 0, 1, 0, 1] (mkEnv 148 0 [(2, v2), (3, v3), (4, v4), (12, v12), (13, v13)])
noncomputable def u1t (v2 v3 v4 v12 v108 : PV) : M PV := atP P X u0c [1, 1, 0, 1, 0, 1, 1, 1, 1, 1, 1, 1, 1, 1, 1, 1] (mkEnv 148 0 [(2, v2), (3, v3), (4, v4), (12, v12), (108, v108)])
noncomputable def u0s (v2 v3 v4 v138 : PV) : M PV := atP P X u0c [1, 1, 0, 1, 0, 1, 1, 1, 1, 1, 1, 1, 1, 1, 1, 1, 1, 1, 1, 1, 1, 1] (mkEnv 148 0 [(2, v2), (3, v3), (4, v4), (138, v138)])
theorem u05 (v2 v3 v4 v12 v13 : PV) : u53 v2 v3 v4 v12 v13 =
 condM v13
 (M.bind (fa 7 v2) fun t16_0 =>
 M.bind (ld (some 4) false t16_0) fun t17_1 =>
 M.bind (fa 7 v3) fun t18_2 =>
 M.bind (ld (some 4) false t18_2) fun t19_3 =>
 M.bind (C u5u [(strip t17_1), (strip t19_3)]) fun t20_4 =>
 M.bind (un .not t20_4) fun t21_5 =>
 M.bind (gd (strip t21_5) false (fa 11 v2)) fun t23_6 =>
 M.bind (gd (strip t21_5) false (ld none false t23_6)) fun t24_7 =>
 M.bind (gd (strip t21_5) false (fa 11 v3)) fun t25_8 =>
 M.bind (gd (strip t21_5) false (ld none false t25_8)) fun t26_9 =>
 M.bind (gd (strip t21_5) false (C u3o [(strip t24_7), (strip t26_9)])) fun t27_10 =>
 M.bind (gd (strip t21_5) false (un .not t27_10)) fun t28_11 =>
 M.bind (pick (strip t21_5) (.bool true) t28_11) fun t29_12 =>
 condM t29_12
 (M.pure (.bool false))
 (M.bind (fa 0 v2) fun t30_13 =>
 M.bind (ld none false t30_13) fun t31_14 =>
 M.bind (bi .eql .none t31_14 (.int .i64 4)) fun t32_15 =>
 M.bind (gd (strip t32_15) true (fa 13 v2)) fun t34_16 =>
 M.bind (gd (strip t32_15) true (ld none false t34_16)) fun t35_17 =>
 M.bind (gd (strip t32_15) true (fa 13 v3)) fun t36_18 =>
 M.bind (gd (strip t32_15) true (ld none false t36_18)) fun t37_19 =>
 M.bind (gd (strip t32_15) true (bi .neq .bool t35_17 t37_19)) fun t38_20 =>
 M.bind (gd (strip t32_15) true (M.pure (strip t38_20))) fun t39_21 =>
 M.bind (gd t39_21 false (fa 12 v2)) fun t40_22 =>
 M.bind (gd t39_21 false (ld none false t40_22)) fun t41_23 =>
 M.bind (gd t39_21 false (fa 12 v3)) fun t42_24 =>
 M.bind (gd t39_21 false (ld none false t42_24)) fun t43_25 =>
 M.bind (gd t39_21 false (C u3o [(strip t41_23), (strip t43_25)])) fun t44_26 =>
 M.bind (gd t39_21 false (un .not t44_26)) fun t45_27 =>
 M.bind (gd (strip t32_15) true (pick t39_21 (.bool true) t45_27)) fun t46_28 =>
 M.bind (pick (strip t32_15) t46_28 (.bool false)) fun t47_29 =>
 condM t47_29
 (M.pure (.bool false))
 (M.bind (fa 0 v2) fun t48_30 =>
 M.bind (ld none false t48_30) fun t49_31 =>
 M.bind (C u08 [(strip t49_31)]) fun t50_32 =>
 M.bind (bi .eql .none t50_32 (.str ⟨#[98, 108, 111, 99, 107]⟩)) fun t51_33 =>
 M.bind (gd (strip t51_33) false (fa 16 v2)) fun t53_34 =>
 M.bind (gd (strip t51_33) false (ld none false t53_34)) fun t54_35 =>
 M.bind (gd (strip t51_33) false (fa 16 v3)) fun t55_36 =>
 M.bind (gd (strip t51_33) false (ld none false t55_36)) fun t56_37 =>
 M.bind (gd (strip t51_33) false (C u3l [(strip t54_35), (strip t56_37)])) fun t57_38 =>
 M.bind (pick (strip t51_33) (.bool true) t57_38) fun t58_39 =>
 resT t58_39 (M.pure t58_39))))
 (M.bind (bi .eql .none v12 (.str ⟨#[120]⟩)) fun t60_40 =>
 condM t60_40
 (M.bind (fa 1 v2) fun t61_41 =>
 M.bind (ld none false t61_41) fun t62_42 =>
 M.bind (fa 1 v3) fun t63_43 =>
 M.bind (ld none false t63_43) fun t64_44 =>
 M.bind (bi .eql .none t62_42 t64_44) fun t65_45 =>
 resT t65_45 (M.pure t65_45))
 (M.bind (bi .eql .none v12 (.str ⟨#[120, 121]⟩)) fun t67_46 =>
 condM t67_46
 (M.bind (fa 1 v2) fun t68_47 =>
 M.bind (ld none false t68_47) fun t69_48 =>
 M.bind (fa 1 v3) fun t70_49 =>
 M.bind (ld none false t70_49) fun t71_50 =>
 M.bind (bi .eql .none t69_48 t71_50) fun t72_51 =>
 M.bind (gd (strip t72_51) true (fa 2 v2)) fun t74_52 =>
 M.bind (gd (strip t72_51) true (ld none false t74_52)) fun t75_53 =>
 M.bind (gd (strip t72_51) true (fa 2 v3)) fun t76_54 =>
 M.bind (gd (strip t72_51) true (ld none false t76_54)) fun t77_55 =>
 M.bind (gd (strip t72_51) true (bi .eql .none t75_53 t77_55)) fun t78_56 =>
 M.bind (pick (strip t72_51) t78_56 (.bool false)) fun t79_57 =>
 resT t79_57 (M.pure t79_57))
 (M.bind (bi .eql .none v12 (.str ⟨#[120, 110]⟩)) fun t81_58 =>
 condM t81_58
 (M.bind (fa 1 v2) fun t82_59 =>
 M.bind (ld none false t82_59) fun t83_60 =>
 M.bind (fa 1 v3) fun t84_61 =>
 M.bind (ld none false t84_61) fun t85_62 =>
 M.bind (bi .eql .none t83_60 t85_62) fun t86_63 =>
 M.bind (gd (strip t86_63) true (fa 3 v2)) fun t88_64 =>
 M.bind (gd (strip t86_63) true (ld none false t88_64)) fun t89_65 =>
 M.bind (gd (strip t86_63) true (fa 3 v3)) fun t90_66 =>
 M.bind (gd (strip t86_63) true (ld none false t90_66)) fun t91_67 =>
 M.bind (gd (strip t86_63) true (bi .eql .none t89_65 t91_67)) fun t92_68 =>
 M.bind (pick (strip t86_63) t92_68 (.bool false)) fun t93_69 =>
 resT t93_69 (M.pure t93_69))
 (M.bind (bi .eql .none v12 (.str ⟨#[116, 97, 98, 108, 101]⟩)) fun t95_70 =>
 condM t95_70
 (M.bind (fa 1 v2) fun t96_71 =>
 M.bind (ld none false t96_71) fun t97_72 =>
 M.bind (fa 1 v3) fun t98_73 =>
 M.bind (ld none false t98_73) fun t99_74 =>
 M.bind (bi .eql .none t97_72 t99_74) fun t100_75 =>
 M.bind (gd (strip t100_75) true (fa 14 v2)) fun t102_76 =>
 M.bind (gd (strip t100_75) true (ld none false t102_76)) fun t103_77 =>
 M.bind (gd (strip t100_75) true (fa 14 v3)) fun t104_78 =>
 M.bind (gd (strip t100_75) true (ld none false t104_78)) fun t105_79 =>
 M.bind (gd (strip t100_75) true (C u3y [(strip t103_77), (strip t105_79)])) fun t106_80 =>
 M.bind (pick (strip t100_75) t106_80 (.bool false)) fun t107_81 =>
 resT t107_81 (M.pure t107_81))
 (M.bind (bi .eql .none v12 (.str ⟨#[115, 101, 108, 101, 99, 116]⟩)) fun t109_82 =>
 condM t109_82
 (u1t v2 v3 v4 v12 t109_82)
 (M.bind (bi .eql .none v12 (.str ⟨#[104, 101, 97, 112]⟩)) fun t110_83 =>
 condM t110_83
 (u1t v2 v3 v4 v12 t110_83)
 (M.bind (bi .eql .none v12 (.str ⟨#[99, 97, 115, 116]⟩)) fun t111_84 =>
 u1t v2 v3 v4 v12 t111_84))))))) :=
 (u0k P X _ _ _).trans (by kernel_rfl)
theorem u01 (v2 v3 v4 v12 v108 : PV) : u1t v2 v3 v4 v12 v108 =
 condM v108
 (M.bind (fa 15 v2) fun t112_0 =>
 M.bind (ld none false t112_0) fun t113_1 =>
 M.bind (fa 15 v3) fun t114_2 =>
 M.bind (ld none false t114_2) fun t115_3 =>
 M.bind (C u3a [(strip t113_1), (strip t115_3)]) fun t116_4 =>
 resT t116_4 (M.pure t116_4))
 (M.bind (bi .eql .none v12 (.str ⟨#[98, 114, 95, 99, 97, 115, 116]⟩)) fun t118_5 =>
 condM t118_5
 (M.bind (fa 1 v2) fun t119_6 =>
 M.bind (ld none false t119_6) fun t120_7 =>
 M.bind (fa 1 v3) fun t121_8 =>
 M.bind (ld none false t121_8) fun t122_9 =>
 M.bind (bi .eql .none t120_7 t122_9) fun t123_10 =>
 M.bind (gd (strip t123_10) true (fa 15 v2)) fun t125_11 =>
 M.bind (gd (strip t123_10) true (ld none false t125_11)) fun t126_12 =>
 M.bind (gd (strip t123_10) true (fa 15 v3)) fun t127_13 =>
 M.bind (gd (strip t123_10) true (ld none false t127_13)) fun t128_14 =>
 M.bind (gd (strip t123_10) true (C u3a [(strip t126_12), (strip t128_14)])) fun t129_15 =>
 M.bind (pick (strip t123_10) t129_15 (.bool false)) fun t130_16 =>
 resT t130_16 (M.pure t130_16))
 (M.bind (bi .eql .none v12 (.str ⟨#[109, 101, 109]⟩)) fun t132_17 =>
 condM t132_17
 (M.bind (fa 4 v2) fun t133_18 =>
 M.bind (ld (some 3) false t133_18) fun t134_19 =>
 M.bind (fa 4 v3) fun t135_20 =>
 M.bind (ld (some 3) false t135_20) fun t136_21 =>
 M.bind (bi .eql (.struct [.int, .int, .int]) t134_19 t136_21) fun t137_22 =>
 resT t137_22 (M.pure t137_22))
 (M.bind (bi .eql .none v12 (.str ⟨#[105, 51, 50]⟩)) fun t139_23 =>
 condM t139_23
 (u0s v2 v3 v4 t139_23)
 (M.bind (bi .eql .none v12 (.str ⟨#[105, 54, 52]⟩)) fun t140_24 =>
 condM t140_24
 (u0s v2 v3 v4 t140_24)
 (M.bind (bi .eql .none v12 (.str ⟨#[102, 51, 50]⟩)) fun t141_25 =>
 condM t141_25
 (u0s v2 v3 v4 t141_25)
 (M.bind (bi .eql .none v12 (.str ⟨#[102, 54, 52]⟩)) fun t142_26 =>
 u0s v2 v3 v4 t142_26)))))) :=
 (u0k P X _ _ _).trans (by kernel_rfl)
theorem u00 (v2 v3 v4 v138 : PV) : u0s v2 v3 v4 v138 =
 condM v138
 (M.bind (fa 3 v2) fun t143_0 =>
 M.bind (ld none false t143_0) fun t144_1 =>
 M.bind (fa 3 v3) fun t145_2 =>
 M.bind (ld none false t145_2) fun t146_3 =>
 M.bind (bi .eql .none t144_1 t146_3) fun t147_4 =>
 resT t147_4 (M.pure t147_4))
 (M.pure (.bool true)) :=
 (u0k P X _ _ _).trans (by kernel_rfl)
theorem u0f (a0 a1 : PV) : C u0c [a0, a1] =
 trunc (M.bind (bx 17 a0) fun t2_0 =>
 M.bind (bx 17 a1) fun t3_1 =>
 M.bind (fa 0 t2_0) fun t5_2 =>
 M.bind (ld none false t5_2) fun t6_3 =>
 M.bind (fa 0 t3_1) fun t7_4 =>
 M.bind (ld none false t7_4) fun t8_5 =>
 M.bind (bi .neq .none t6_3 t8_5) fun t9_6 =>
 condM t9_6
 (M.pure (.bool false))
 (M.bind (fa 0 t2_0) fun t10_7 =>
 M.bind (ld none false t10_7) fun t11_8 =>
 M.bind (C u08 [(strip t11_8)]) fun t12_9 =>
 M.bind (bi .eql .none t12_9 (.str ⟨#[98, 108, 111, 99, 107]⟩)) fun t14_10 =>
 condM t14_10
 (u53 t2_0 t3_1 (.bool false) t12_9 t14_10)
 (M.bind (bi .eql .none t12_9 (.str ⟨#[116, 114, 121]⟩)) fun t15_11 =>
 u53 t2_0 t3_1 (.bool false) t12_9 t15_11))) := by
 rw [C, u03 _ _ rfl]; kernel_rfl
theorem ubc (a0 a1 : PV) : C u74 [a0, a1] =
 trunc (M.bind (bx 17 a0) fun t2_0 =>
 M.bind (bx 17 a1) fun t3_1 =>
 M.bind (fa 1 t2_0) fun t5_2 =>
 M.bind (ld none false t5_2) fun t6_3 =>
 M.bind (fa 1 t3_1) fun t7_4 =>
 M.bind (ld none false t7_4) fun t8_5 =>
 M.bind (bi .eql .none t6_3 t8_5) fun t9_6 =>
 M.bind (gd (strip t9_6) true (fa 2 t2_0)) fun t11_7 =>
 M.bind (gd (strip t9_6) true (ld none false t11_7)) fun t12_8 =>
 M.bind (gd (strip t9_6) true (fa 2 t3_1)) fun t13_9 =>
 M.bind (gd (strip t9_6) true (ld none false t13_9)) fun t14_10 =>
 M.bind (gd (strip t9_6) true (bi .eql .none t12_8 t14_10)) fun t15_11 =>
 M.bind (pick (strip t9_6) t15_11 (.bool false)) fun t16_12 =>
 M.bind (gd (strip t16_12) true (fa 3 t2_0)) fun t18_13 =>
 M.bind (gd (strip t16_12) true (ld none false t18_13)) fun t19_14 =>
 M.bind (gd (strip t16_12) true (fa 3 t3_1)) fun t20_15 =>
 M.bind (gd (strip t16_12) true (ld none false t20_15)) fun t21_16 =>
 M.bind (gd (strip t16_12) true (bi .eql .none t19_14 t21_16)) fun t22_17 =>
 M.bind (pick (strip t16_12) t22_17 (.bool false)) fun t23_18 =>
 M.bind (gd (strip t23_18) true (fa 4 t2_0)) fun t25_19 =>
 M.bind (gd (strip t23_18) true (ld (some 3) false t25_19)) fun t26_20 =>
 M.bind (gd (strip t23_18) true (fa 4 t3_1)) fun t27_21 =>
 M.bind (gd (strip t23_18) true (ld (some 3) false t27_21)) fun t28_22 =>
 M.bind (gd (strip t23_18) true (bi .eql (.struct [.int, .int, .int]) t26_20 t28_22)) fun t29_23 =>
 M.bind (pick (strip t23_18) t29_23 (.bool false)) fun t30_24 =>
 M.bind (gd (strip t30_24) true (fa 7 t2_0)) fun t32_25 =>
 M.bind (gd (strip t30_24) true (ld (some 4) false t32_25)) fun t33_26 =>
 M.bind (gd (strip t30_24) true (fa 7 t3_1)) fun t34_27 =>
 M.bind (gd (strip t30_24) true (ld (some 4) false t34_27)) fun t35_28 =>
 M.bind (gd (strip t30_24) true (bi .eql (.struct [.int, .int, .bool, .int]) t33_26 t35_28)) fun t36_29 =>
 M.bind (pick (strip t30_24) t36_29 (.bool false)) fun t37_30 =>
 M.bind (gd (strip t37_30) true (fa 13 t2_0)) fun t39_31 =>
 M.bind (gd (strip t37_30) true (ld none false t39_31)) fun t40_32 =>
 M.bind (gd (strip t37_30) true (fa 13 t3_1)) fun t41_33 =>
 M.bind (gd (strip t37_30) true (ld none false t41_33)) fun t42_34 =>
 M.bind (gd (strip t37_30) true (bi .eql .bool t40_32 t42_34)) fun t43_35 =>
 M.bind (pick (strip t37_30) t43_35 (.bool false)) fun t44_36 =>
 M.bind (gd (strip t44_36) true (fa 11 t2_0)) fun t46_37 =>
 M.bind (gd (strip t44_36) true (ld none false t46_37)) fun t47_38 =>
 M.bind (gd (strip t44_36) true (lnL t47_38)) fun t48_39 =>
 M.bind (gd (strip t44_36) true (fa 11 t3_1)) fun t49_40 =>
 M.bind (gd (strip t44_36) true (ld none false t49_40)) fun t50_41 =>
 M.bind (gd (strip t44_36) true (lnL t50_41)) fun t51_42 =>
 M.bind (gd (strip t44_36) true (bi .eql .none t48_39 t51_42)) fun t52_43 =>
 M.bind (pick (strip t44_36) t52_43 (.bool false)) fun t53_44 =>
 M.bind (gd (strip t53_44) true (fa 12 t2_0)) fun t55_45 =>
 M.bind (gd (strip t53_44) true (ld none false t55_45)) fun t56_46 =>
 M.bind (gd (strip t53_44) true (lnL t56_46)) fun t57_47 =>
 M.bind (gd (strip t53_44) true (fa 12 t3_1)) fun t58_48 =>
 M.bind (gd (strip t53_44) true (ld none false t58_48)) fun t59_49 =>
 M.bind (gd (strip t53_44) true (lnL t59_49)) fun t60_50 =>
 M.bind (gd (strip t53_44) true (bi .eql .none t57_47 t60_50)) fun t61_51 =>
 M.bind (pick (strip t53_44) t61_51 (.bool false)) fun t62_52 =>
 M.bind (gd (strip t62_52) true (fa 14 t2_0)) fun t64_53 =>
 M.bind (gd (strip t62_52) true (ld none false t64_53)) fun t65_54 =>
 M.bind (gd (strip t62_52) true (lnL t65_54)) fun t66_55 =>
 M.bind (gd (strip t62_52) true (fa 14 t3_1)) fun t67_56 =>
 M.bind (gd (strip t62_52) true (ld none false t67_56)) fun t68_57 =>
 M.bind (gd (strip t62_52) true (lnL t68_57)) fun t69_58 =>
 M.bind (gd (strip t62_52) true (bi .eql .none t66_55 t69_58)) fun t70_59 =>
 M.bind (pick (strip t62_52) t70_59 (.bool false)) fun t71_60 =>
 M.bind (gd (strip t71_60) true (fa 15 t2_0)) fun t73_61 =>
 M.bind (gd (strip t71_60) true (ld none false t73_61)) fun t74_62 =>
 M.bind (gd (strip t71_60) true (lnL t74_62)) fun t75_63 =>
 M.bind (gd (strip t71_60) true (fa 15 t3_1)) fun t76_64 =>
 M.bind (gd (strip t71_60) true (ld none false t76_64)) fun t77_65 =>
 M.bind (gd (strip t71_60) true (lnL t77_65)) fun t78_66 =>
 M.bind (gd (strip t71_60) true (bi .eql .none t75_63 t78_66)) fun t79_67 =>
 M.bind (pick (strip t71_60) t79_67 (.bool false)) fun t80_68 =>
 M.bind (gd (strip t80_68) true (fa 16 t2_0)) fun t82_69 =>
 M.bind (gd (strip t80_68) true (ld none false t82_69)) fun t83_70 =>
 M.bind (gd (strip t80_68) true (lnL t83_70)) fun t84_71 =>
 M.bind (gd (strip t80_68) true (fa 16 t3_1)) fun t85_72 =>
 M.bind (gd (strip t80_68) true (ld none false t85_72)) fun t86_73 =>
 M.bind (gd (strip t80_68) true (lnL t86_73)) fun t87_74 =>
 M.bind (gd (strip t80_68) true (bi .eql .none t84_71 t87_74)) fun t88_75 =>
 M.bind (pick (strip t80_68) t88_75 (.bool false)) fun t89_76 =>
 resT t89_76 (M.pure t89_76)) := by
 rw [C, u03 _ _ rfl]; kernel_rfl
theorem ubj : C u71 [] =
 trunc (M.bind (C uez [(.int .i64 106)]) fun t1_0 =>
 M.bind (bi .eql .none t1_0 (.str ⟨#[105, 51, 50, 46, 97, 100, 100]⟩)) fun t2_1 =>
 resT t2_1 (M.pure t2_1)) := by
 rw [C, u03 _ _ rfl]; kernel_rfl
end Go.Proofs.YthidcpkcfoldmaaGreat.Pi.Q
namespace Go.Proofs.YthidcpkcfoldmaaGreat.Pi.Q
open Go Go.Proofs.YthidcpkcfoldmaaGreat.Pi
theorem ufe : C u9a [] =
 trunc (M.bind (al [.nilfn, .nilfn, .nilfn, .nilfn, .nilfn, .nilfn, .nilfn, .nilfn, .nilfn, .nilfn, .nilfn, .nilfn, .nilfn, .nilfn, .nilfn, .nilfn, .nilfn]) fun t0_0 =>
 M.bind (bd [.nilfn, .nilfn, .nilfn, .nilfn, .nilfn, .nilfn, .nilfn, .nilfn, .nilfn, .nilfn, .nilfn, .nilfn, .nilfn, .nilfn, .nilfn, .nilfn, .nilfn] [(0, 1, (.fn u21 [] [])), (1, 1, (.fn u21 [] [])), (2, 1, (.fn u3f [] [])), (3, 1, (.fn u3d [] [])), (4, 1, (.fn u4f [] [])), (5, 1, (.fn u5q [] [])), (6, 1, (.fn u3e [] [])), (7, 1, (.fn u2y [] [])), (8, 1, (.fn u49 [] [])), (9, 1, (.fn u5b [] [])), (10, 1, (.fn u5c [] [])), (11, 1, (.fn u5a [] [])), (12, 1, (.fn u5d [] [])), (13, 1, (.fn u4v [] [])), (14, 1, (.fn u4w [] [])), (15, 1, (.fn u44 [] [])), (16, 1, (.fn u5o [] []))]) fun t1_1 =>
 M.bind (st 17 true t0_0 t1_1) fun _ =>
 M.bind (ld (some 17) true t0_0) fun t0_3 => guardM (!isTup t0_3) (M.pure t0_3)) := by
 rw [C, u03 _ _ rfl]; kernel_rfl
noncomputable def u1v (v0 v2 v3 v4 : PV) : M PV := atP P X u31 [1, 1, 1, 1] (mkEnv 71 0 [(0, v0), (2, v2), (3, v3), (4, v4)])
noncomputable def u4k (v0 v2 v4 v5 : PV) : M PV := atP P X u31 [1, 1, 1, 1, 1, 1] (mkEnv 71 0 [(0, v0), (2, v2), (4, v4), (5, v5)])
theorem u8c (v0 v2 v3 v4 : PV) : u1v v0 v2 v3 v4 =
 M.bind (C u7m [(strip (strip v4))]) fun t57_0 =>
 M.bind (al [(.int .i64 0), (.str ⟨#[]⟩), (.int .i64 0)]) fun t5_1 =>
 M.bind (st 3 true t5_1 t57_0) fun _ =>
 M.bind (fa 2 t5_1) fun t58_3 =>
 M.bind (ld none false t58_3) fun t59_4 =>
 M.bind (bi .eql .none t59_4 (.int .i64 0)) fun t60_5 =>
 condM t60_5
 (M.bind (C u0r [(strip (strip v0)), (strip (strip v3)), (.int .i64 4)]) fun t63_6 =>
 u4k v0 v2 v4 t5_1)
 (u4k v0 v2 v4 t5_1) :=
 (u0k P X _ _ _).trans (by kernel_rfl)
theorem u5n (v0 v2 v4 v5 : PV) : u4k v0 v2 v4 v5 =
 M.bind (nc P (strip v0)) fun t66_0 =>
 M.bind (fa 2 t66_0) fun t67_1 =>
 M.bind (fa 0 t67_1) fun t68_2 =>
 M.bind (st 1 true t68_2 v4) fun _ =>
 M.bind (fa 2 v5) fun t69_4 =>
 M.bind (ld none true t69_4) fun t70_5 =>
 resT t70_5 (M.pure t70_5) :=
 (u0k P X _ _ _).trans (by kernel_rfl)
theorem u82 (a0 : PV) : C u31 [a0] =
 trunc (M.bind (nc P (strip a0)) fun t7_0 =>
 M.bind (fa 1 t7_0) fun t8_1 =>
 M.bind (ld none true t8_1) fun t9_2 =>
 M.bind (C u2n [(strip (strip a0)), (.int .u8 255)]) fun t11_3 =>
 M.bind (cv (.int .i64) true t11_3) fun t12_4 =>
 M.bind (nc P (strip a0)) fun t15_5 =>
 M.bind (fa 20 t15_5) fun t16_6 =>
 M.bind (ld none false t16_6) fun t17_7 =>
 M.bind (bi .neq .none t17_7 (.int .i64 0)) fun t18_8 =>
 condM t18_8
 (M.pure (.int .i64 0))
 (M.bind (bi .eql .none (strip t12_4) (.int .i64 253)) fun t21_9 =>
 condM t21_9
 (M.bind (C u0r [(strip (strip a0)), (strip (strip t9_2)), (.int .i64 8)]) fun t24_10 =>
 u1v a0 (.int .i64 0) t9_2 t12_4)
 (M.bind (bi .eql .none (strip t12_4) (.int .i64 251)) fun t27_11 =>
 M.bind (gd (strip t27_11) false (M.pure (strip t12_4))) fun t29_12 =>
 M.bind (gd (strip t27_11) false (bi .eql .none t29_12 (.int .i64 252))) fun t30_13 =>
 M.bind (pick (strip t27_11) (.bool true) t30_13) fun t31_14 =>
 condM t31_14
 (M.bind (bi .shl .none (strip t12_4) (.int .u64 8)) fun t33_15 =>
 M.bind (C u2w [(strip (strip a0)), (.int .u32 255), (.int .i64 4)]) fun t35_16 =>
 M.bind (cv (.int .i64) true t35_16) fun t36_17 =>
 M.bind (bi .or .none t33_15 t36_17) fun t37_18 =>
 M.bind (nc P (strip a0)) fun t39_19 =>
 M.bind (fa 20 t39_19) fun t40_20 =>
 M.bind (ld none false t40_20) fun t41_21 =>
 M.bind (bi .eql .none t41_21 (.int .i64 4)) fun t42_22 =>
 M.bind (gd (strip t42_22) true (M.pure (strip a0))) fun t44_23 =>
 M.bind (gd (strip t42_22) true (nc P t44_23)) fun t45_24 =>
 M.bind (gd (strip t42_22) true (fa 19 t45_24)) fun t46_25 =>
 M.bind (gd (strip t42_22) true (ld none false t46_25)) fun t47_26 =>
 M.bind (gd (strip t42_22) true (M.pure (strip t9_2))) fun t48_27 =>
 M.bind (gd (strip t42_22) true (bi .add .none t48_27 (.int .i64 1))) fun t49_28 =>
 M.bind (gd (strip t42_22) true (bi .eql .none t47_26 t49_28)) fun t50_29 =>
 M.bind (pick (strip t42_22) t50_29 (.bool false)) fun t51_30 =>
 condM t51_30
 (M.bind (nc P (strip a0)) fun t54_31 =>
 M.bind (fa 19 t54_31) fun t55_32 =>
 M.bind (st 1 true t55_32 t9_2) fun _ =>
 u1v a0 (.int .i64 0) (strip t9_2) t37_18)
 (u1v a0 (.int .i64 0) t9_2 t37_18))
 (u1v a0 (.int .i64 0) t9_2 t12_4)))) := by
 rw [C, u03 _ _ rfl]; kernel_rfl
noncomputable def u0u (v0 v4 v5 v8 v9 : PV) : M PV := atP P X u04 [1, 1, 0, 1, 0, 1, 1, 1, 1, 1, 1, 1, 1, 1, 1, 1, 0, 1, 1, 0] (mkEnv 165 0 [(0, v0), (4, v4), (5, v5), (8, v8), (9, v9)])
noncomputable def u0y (v0 v4 v5 v6 v7 : PV) : M PV := atP P X u04 [1, 1, 0, 1, 0, 1, 1, 1, 1, 1, 1, 1, 1, 1, 0, 1, 0, 1, 0] (mkEnv 165 0 [(0, v0), (4, v4), (5, v5), (6, v6), (7, v7)])
noncomputable def u07 (v4 v5 : PV) : M PV := atP P X u04 [1, 1, 1] (mkEnv 165 0 [(4, v4), (5, v5)])
theorem u16 (v0 v4 v5 v8 v9 : PV) : u0u v0 v4 v5 v8 v9 =
 M.bind (bi .lss .none (strip v9) (strip v8)) fun t74_0 =>
 M.bind (gd (strip t74_0) true (M.pure (strip v0))) fun t76_1 =>
 M.bind (gd (strip t74_0) true (nc P t76_1)) fun t77_2 =>
 M.bind (gd (strip t74_0) true (fa 3 t77_2)) fun t78_3 =>
 M.bind (gd (strip t74_0) true (ld none false t78_3)) fun t79_4 =>
 M.bind (gd (strip t74_0) true (bi .eql .none t79_4 (.int .i64 0))) fun t80_5 =>
 M.bind (pick (strip t74_0) t80_5 (.bool false)) fun t81_6 =>
 condM t81_6
 (chk
 (M.bind (noPan (fa 15 v5)) fun t84_15 =>
 M.bind (noPan (M.pure (strip v0))) fun t86_16 =>
 M.bind (noPan (C u2m [(strip t86_16)])) fun t87_17 =>
 M.bind (noPan (bs true (some 3) [t87_17])) fun t88_18 =>
 M.bind (noPan (ld none true t84_15)) fun t85_19 =>
 M.bind (noPan (ap true 3 24 t85_19 t88_18)) fun t89_20 =>
 M.bind (noPan (fa 15 v5)) fun t90_21 =>
 M.bind (noPan (st 1 true t90_21 t89_20)) fun _ =>
 M.pure [v0, PV.undef, PV.undef, PV.undef, v4, v5, PV.undef, PV.undef, v8, v9, PV.undef, PV.undef, PV.undef, PV.undef, PV.undef, PV.undef, PV.undef, PV.undef, PV.undef, PV.undef, PV.undef, PV.undef, PV.undef, PV.undef, PV.undef, PV.undef, PV.undef, PV.undef, PV.undef, PV.undef, PV.undef, PV.undef, PV.undef, PV.undef, PV.undef, PV.undef, PV.undef, PV.undef, PV.undef, PV.undef, PV.undef, PV.undef, PV.undef, PV.undef, PV.undef, PV.undef, PV.undef, PV.undef, PV.undef, PV.undef, PV.undef, PV.undef, PV.undef, PV.undef, PV.undef, PV.undef, PV.undef, PV.undef, PV.undef, PV.undef, PV.undef, PV.undef, PV.undef, PV.undef, PV.undef, PV.undef, PV.undef, PV.undef, PV.undef, PV.undef, PV.undef, PV.undef, (strip v9), (strip v8), t74_0, (strip t74_0), t76_1, t77_2, t78_3, t79_4, t80_5, t81_6, PV.undef, PV.undef, t84_15, (strip t85_19), t86_16, t87_17, t88_18, (strip t89_20), t90_21, PV.undef, PV.undef, PV.undef, PV.undef, PV.undef, PV.undef, PV.undef, PV.undef, PV.undef, PV.undef, PV.undef, PV.undef, PV.undef, PV.undef, PV.undef, PV.undef, PV.undef, PV.undef, PV.undef, PV.undef, PV.undef, PV.undef, PV.undef, PV.undef, PV.undef, PV.undef, PV.undef, PV.undef, PV.undef, PV.undef, PV.undef, PV.undef, PV.undef, PV.undef, PV.undef, PV.undef, PV.undef, PV.undef, PV.undef, PV.undef, PV.undef, PV.undef, PV.undef, PV.undef, PV.undef, PV.undef, PV.undef, PV.undef, PV.undef, PV.undef, PV.undef, PV.undef, PV.undef, PV.undef, PV.undef, PV.undef, PV.undef, PV.undef, PV.undef, PV.undef, PV.undef, PV.undef, PV.undef, PV.undef, PV.undef, PV.undef, PV.undef, PV.undef, PV.undef, PV.undef, PV.undef, PV.undef, PV.undef, PV.undef])
 (M.bind (noPan (fa 15 v5)) fun t84_7 =>
 M.bind (noPan (M.pure (strip v0))) fun t86_8 =>
 M.bind (noPan (ld none true t84_7)) fun t85_9 =>
 M.bind (noPan (C u2m [(strip t86_8)])) fun t87_10 =>
 M.bind (noPan (bs true (some 3) [t87_10])) fun t88_11 =>
 M.bind (noPan (ap true 3 24 t85_9 t88_11)) fun t89_12 =>
 M.bind (noPan (fa 15 v5)) fun t90_13 =>
 M.bind (noPan (st 1 true t90_13 t89_12)) fun _ =>
 M.pure [v0, PV.undef, PV.undef, PV.undef, v4, v5, PV.undef, PV.undef, v8, v9, PV.undef, PV.undef, PV.undef, PV.undef, PV.undef, PV.undef, PV.undef, PV.undef, PV.undef, PV.undef, PV.undef, PV.undef, PV.undef, PV.undef, PV.undef, PV.undef, PV.undef, PV.undef, PV.undef, PV.undef, PV.undef, PV.undef, PV.undef, PV.undef, PV.undef, PV.undef, PV.undef, PV.undef, PV.undef, PV.undef, PV.undef, PV.undef, PV.undef, PV.undef, PV.undef, PV.undef, PV.undef, PV.undef, PV.undef, PV.undef, PV.undef, PV.undef, PV.undef, PV.undef, PV.undef, PV.undef, PV.undef, PV.undef, PV.undef, PV.undef, PV.undef, PV.undef, PV.undef, PV.undef, PV.undef, PV.undef, PV.undef, PV.undef, PV.undef, PV.undef, PV.undef, PV.undef, (strip v9), (strip v8), t74_0, (strip t74_0), t76_1, t77_2, t78_3, t79_4, t80_5, t81_6, PV.undef, PV.undef, t84_7, (strip t85_9), t86_8, t87_10, t88_11, (strip t89_12), t90_13, PV.undef, PV.undef, PV.undef, PV.undef, PV.undef, PV.undef, PV.undef, PV.undef, PV.undef, PV.undef, PV.undef, PV.undef, PV.undef, PV.undef, PV.undef, PV.undef, PV.undef, PV.undef, PV.undef, PV.undef, PV.undef, PV.undef, PV.undef, PV.undef, PV.undef, PV.undef, PV.undef, PV.undef, PV.undef, PV.undef, PV.undef, PV.undef, PV.undef, PV.undef, PV.undef, PV.undef, PV.undef, PV.undef, PV.undef, PV.undef, PV.undef, PV.undef, PV.undef, PV.undef, PV.undef, PV.undef, PV.undef, PV.undef, PV.undef, PV.undef, PV.undef, PV.undef, PV.undef, PV.undef, PV.undef, PV.undef, PV.undef, PV.undef, PV.undef, PV.undef, PV.undef, PV.undef, PV.undef, PV.undef, PV.undef, PV.undef, PV.undef, PV.undef, PV.undef, PV.undef, PV.undef, PV.undef, PV.undef, PV.undef]) <|
 M.bind (noPan (fa 15 v5)) fun t84_23 =>
 M.bind (noPan (M.pure (strip v0))) fun t86_24 =>
 M.bind (noPan (ld none true t84_23)) fun t85_25 =>
 M.bind (noPan (C u2m [(strip t86_24)])) fun t87_26 =>
 M.bind (noPan (bs true (some 3) [t87_26])) fun t88_27 =>
 M.bind (noPan (ap true 3 24 t85_25 t88_27)) fun t89_28 =>
 M.bind (noPan (fa 15 v5)) fun t90_29 =>
 M.bind (noPan (st 1 true t90_29 t89_28)) fun _ =>
 M.bind (bi .add .none (strip v9) (.int .i64 1)) fun t83_31 =>
 u0u v0 v4 v5 v8 t83_31)
 (u07 v4 v5) :=
 (u0k P X _ _ _).trans (by kernel_rfl)
theorem u1c (v0 v4 v5 v6 v7 : PV) : u0y v0 v4 v5 v6 v7 =
 M.bind (bi .lss .none (strip v7) (strip v6)) fun t48_0 =>
 M.bind (gd (strip t48_0) true (M.pure (strip v0))) fun t50_1 =>
 M.bind (gd (strip t48_0) true (nc P t50_1)) fun t51_2 =>
 M.bind (gd (strip t48_0) true (fa 3 t51_2)) fun t52_3 =>
 M.bind (gd (strip t48_0) true (ld none false t52_3)) fun t53_4 =>
 M.bind (gd (strip t48_0) true (bi .eql .none t53_4 (.int .i64 0))) fun t54_5 =>
 M.bind (pick (strip t48_0) t54_5 (.bool false)) fun t55_6 =>
 condM t55_6
 (chk
 (M.bind (noPan (fa 14 v5)) fun t58_15 =>
 M.bind (noPan (M.pure (strip v0))) fun t60_16 =>
 M.bind (noPan (C u0b [(strip t60_16)])) fun t61_17 =>
 M.bind (noPan (bs true none [t61_17])) fun t62_18 =>
 M.bind (noPan (ld none true t58_15)) fun t59_19 =>
 M.bind (noPan (ap true 1 4 t59_19 t62_18)) fun t63_20 =>
 M.bind (noPan (fa 14 v5)) fun t64_21 =>
 M.bind (noPan (st 1 true t64_21 t63_20)) fun _ =>
 M.pure [v0, PV.undef, PV.undef, PV.undef, v4, v5, v6, v7, PV.undef, PV.undef, PV.undef, PV.undef, PV.undef, PV.undef, PV.undef, PV.undef, PV.undef, PV.undef, PV.undef, PV.undef, PV.undef, PV.undef, PV.undef, PV.undef, PV.undef, PV.undef, PV.undef, PV.undef, PV.undef, PV.undef, PV.undef, PV.undef, PV.undef, PV.undef, PV.undef, PV.undef, PV.undef, PV.undef, PV.undef, PV.undef, PV.undef, PV.undef, PV.undef, PV.undef, PV.undef, PV.undef, (strip v7), (strip v6), t48_0, (strip t48_0), t50_1, t51_2, t52_3, t53_4, t54_5, t55_6, PV.undef, PV.undef, t58_15, (strip t59_19), t60_16, t61_17, t62_18, (strip t63_20), t64_21, PV.undef, PV.undef, PV.undef, PV.undef, PV.undef, PV.undef, PV.undef, PV.undef, PV.undef, PV.undef, PV.undef, PV.undef, PV.undef, PV.undef, PV.undef, PV.undef, PV.undef, PV.undef, PV.undef, PV.undef, PV.undef, PV.undef, PV.undef, PV.undef, PV.undef, PV.undef, PV.undef, PV.undef, PV.undef, PV.undef, PV.undef, PV.undef, PV.undef, PV.undef, PV.undef, PV.undef, PV.undef, PV.undef, PV.undef, PV.undef, PV.undef, PV.undef, PV.undef, PV.undef, PV.undef, PV.undef, PV.undef, PV.undef, PV.undef, PV.undef, PV.undef, PV.undef, PV.undef, PV.undef, PV.undef, PV.undef, PV.undef, PV.undef, PV.undef, PV.undef, PV.undef, PV.undef, PV.undef, PV.undef, PV.undef, PV.undef, PV.undef, PV.undef, PV.undef, PV.undef, PV.undef, PV.undef, PV.undef, PV.undef, PV.undef, PV.undef, PV.undef, PV.undef, PV.undef, PV.undef, PV.undef, PV.undef, PV.undef, PV.undef, PV.undef, PV.undef, PV.undef, PV.undef, PV.undef, PV.undef, PV.undef, PV.undef, PV.undef, PV.undef, PV.undef, PV.undef, PV.undef, PV.undef, PV.undef, PV.undef])
 (M.bind (noPan (fa 14 v5)) fun t58_7 =>
 M.bind (noPan (M.pure (strip v0))) fun t60_8 =>
 M.bind (noPan (ld none true t58_7)) fun t59_9 =>
 M.bind (noPan (C u0b [(strip t60_8)])) fun t61_10 =>
 M.bind (noPan (bs true none [t61_10])) fun t62_11 =>
 M.bind (noPan (ap true 1 4 t59_9 t62_11)) fun t63_12 =>
 M.bind (noPan (fa 14 v5)) fun t64_13 =>
 M.bind (noPan (st 1 true t64_13 t63_12)) fun _ =>
 M.pure [v0, PV.undef, PV.undef, PV.undef, v4, v5, v6, v7, PV.undef, PV.undef, PV.undef, PV.undef, PV.undef, PV.undef, PV.undef, PV.undef, PV.undef, PV.undef, PV.undef, PV.undef, PV.undef, PV.undef, PV.undef, PV.undef, PV.undef, PV.undef, PV.undef, PV.undef, PV.undef, PV.undef, PV.undef, PV.undef, PV.undef, PV.undef, PV.undef, PV.undef, PV.undef, PV.undef, PV.undef, PV.undef, PV.undef, PV.undef, PV.undef, PV.undef, PV.undef, PV.undef, (strip v7), (strip v6), t48_0, (strip t48_0), t50_1, t51_2, t52_3, t53_4, t54_5, t55_6, PV.undef, PV.undef, t58_7, (strip t59_9), t60_8, t61_10, t62_11, (strip t63_12), t64_13, PV.undef, PV.undef, PV.undef, PV.undef, PV.undef, PV.undef, PV.undef, PV.undef, PV.undef, PV.undef, PV.undef, PV.undef, PV.undef, PV.undef, PV.undef, PV.undef, PV.undef, PV.undef, PV.undef, PV.undef, PV.undef, PV.undef, PV.undef, PV.undef, PV.undef, PV.undef, PV.undef, PV.undef, PV.undef, PV.undef, PV.undef, PV.undef, PV.undef, PV.undef, PV.undef, PV.undef, PV.undef, PV.undef, PV.undef, PV.undef, PV.undef, PV.undef, PV.undef, PV.undef, PV.undef, PV.undef, PV.undef, PV.undef, PV.undef, PV.undef, PV.undef, PV.undef, PV.undef, PV.undef, PV.undef, PV.undef, PV.undef, PV.undef, PV.undef, PV.undef, PV.undef, PV.undef, PV.undef, PV.undef, PV.undef, PV.undef, PV.undef, PV.undef, PV.undef, PV.undef, PV.undef, PV.undef, PV.undef, PV.undef, PV.undef, PV.undef, PV.undef, PV.undef, PV.undef, PV.undef, PV.undef, PV.undef, PV.undef, PV.undef, PV.undef, PV.undef, PV.undef, PV.undef, PV.undef, PV.undef, PV.undef, PV.undef, PV.undef, PV.undef, PV.undef, PV.undef, PV.undef, PV.undef, PV.undef, PV.undef]) <|
 M.bind (noPan (fa 14 v5)) fun t58_23 =>
 M.bind (noPan (M.pure (strip v0))) fun t60_24 =>
 M.bind (noPan (ld none true t58_23)) fun t59_25 =>
 M.bind (noPan (C u0b [(strip t60_24)])) fun t61_26 =>
 M.bind (noPan (bs true none [t61_26])) fun t62_27 =>
 M.bind (noPan (ap true 1 4 t59_25 t62_27)) fun t63_28 =>
 M.bind (noPan (fa 14 v5)) fun t64_29 =>
 M.bind (noPan (st 1 true t64_29 t63_28)) fun _ =>
 M.bind (bi .add .none (strip v7) (.int .i64 1)) fun t57_31 =>
 u0y v0 v4 v5 v6 t57_31)
 (M.bind (C u0b [(strip (strip v0))]) fun t66_32 =>
 M.bind (fa 1 v5) fun t67_33 =>
 M.bind (st 1 true t67_33 t66_32) fun _ =>
 u07 v4 v5) :=
 (u0k P X _ _ _).trans (by kernel_rfl)
theorem u02 (v4 v5 : PV) : u07 v4 v5 =
 M.bind (ld (some 17) true v5) fun t164_0 =>
 M.bind (st 17 true v4 t164_0) fun _ =>
 M.bind (ld (some 17) true v4) fun t0_2 => guardM (!isTup t0_2) (M.pure t0_2) :=
 (u0k P X _ _ _).trans (by kernel_rfl)
theorem u0a (a0 a1 : PV) : C u04 [a0, a1] =
 trunc (M.bind (al [(.int .i64 0), (.int .u32 0), (.int .u32 0), (.int .u64 0), (.int .u32 0), (.int .u32 0), (.int .u64 0), (.int .i64 0), (.int .i64 0), (.bool false), (.int .i64 0), (.slice false true 0 []), (.slice false true 0 []), (.bool false), (.slice false true 0 []), (.slice false true 0 []), (.slice false true 0 [])]) fun t4_0 =>
 M.bind (bd [(.int .i64 0), (.int .u32 0), (.int .u32 0), (.int .u64 0), (.int .u32 0), (.int .u32 0), (.int .u64 0), (.int .i64 0), (.int .i64 0), (.bool false), (.int .i64 0), (.slice false true 0 []), (.slice false true 0 []), (.bool false), (.slice false true 0 []), (.slice false true 0 []), (.slice false true 0 [])] [(0, 1, (strip a1))]) fun t13_1 =>
 M.bind (al [(.int .i64 0), (.int .u32 0), (.int .u32 0), (.int .u64 0), (.int .u32 0), (.int .u32 0), (.int .u64 0), (.int .i64 0), (.int .i64 0), (.bool false), (.int .i64 0), (.slice false true 0 []), (.slice false true 0 []), (.bool false), (.slice false true 0 []), (.slice false true 0 []), (.slice false true 0 [])]) fun t5_2 =>
 M.bind (st 17 true t5_2 t13_1) fun _ =>
 M.bind (C u08 [(strip (strip a1))]) fun t15_4 =>
 M.bind (bi .eql .none t15_4 (.str ⟨#[98, 108, 111, 99, 107]⟩)) fun t17_5 =>
 condM t17_5
 (M.bind (C u33 [(strip (strip a0))]) fun t19_6 =>
 M.bind (fa 7 t5_2) fun t20_7 =>
 M.bind (st 4 true t20_7 t19_6) fun _ =>
 u07 t4_0 t5_2)
 (M.bind (bi .eql .none t15_4 (.str ⟨#[116, 114, 121]⟩)) fun t22_9 =>
 condM t22_9
 (M.bind (C u33 [(strip (strip a0))]) fun t24_10 =>
 M.bind (fa 7 t5_2) fun t25_11 =>
 M.bind (st 4 true t25_11 t24_10) fun _ =>
 M.bind (C u1u [(strip (strip a0))]) fun t27_13 =>
 M.bind (fa 16 t5_2) fun t28_14 =>
 M.bind (st 1 true t28_14 t27_13) fun _ =>
 u07 t4_0 t5_2)
 (M.bind (bi .eql .none t15_4 (.str ⟨#[120]⟩)) fun t30_16 =>
 condM t30_16
 (M.bind (C u0b [(strip (strip a0))]) fun t32_17 =>
 M.bind (fa 1 t5_2) fun t33_18 =>
 M.bind (st 1 true t33_18 t32_17) fun _ =>
 u07 t4_0 t5_2)
 (M.bind (bi .eql .none t15_4 (.str ⟨#[120, 121]⟩)) fun t35_20 =>
 condM t35_20
 (M.bind (C u0b [(strip (strip a0))]) fun t37_21 =>
 M.bind (fa 1 t5_2) fun t38_22 =>
 M.bind (st 1 true t38_22 t37_21) fun _ =>
 M.bind (C u0b [(strip (strip a0))]) fun t40_24 =>
 M.bind (fa 2 t5_2) fun t41_25 =>
 M.bind (st 1 true t41_25 t40_24) fun _ =>
 u07 t4_0 t5_2)
 (M.bind (bi .eql .none t15_4 (.str ⟨#[116, 97, 98, 108, 101]⟩)) fun t43_27 =>
 condM t43_27
 (M.bind (C u2i [(strip (strip a0)), (.int .i64 65536)]) fun t45_28 =>
 u0y a0 t4_0 t5_2 t45_28 (.int .i64 0))
 (M.bind (bi .eql .none t15_4 (.str ⟨#[115, 101, 108, 101, 99, 116]⟩)) fun t69_29 =>
 condM t69_29
 (M.bind (C u2i [(strip (strip a0)), (.int .i64 1000)]) fun t71_30 =>
 u0u a0 t4_0 t5_2 t71_30 (.int .i64 0))
 (M.bind (bi .eql .none t15_4 (.str ⟨#[109, 101, 109]⟩)) fun t92_31 =>
 condM t92_31
 (M.bind (C u2j [(strip (strip a0))]) fun t94_32 =>
 M.bind (fa 4 t5_2) fun t95_33 =>
 M.bind (st 3 true t95_33 t94_32) fun _ =>
 u07 t4_0 t5_2)
 (M.bind (bi .eql .none t15_4 (.str ⟨#[105, 51, 50]⟩)) fun t97_35 =>
 condM t97_35
 (M.bind (C u10 [(strip (strip a0)), (.int .i64 32), (.bool true)]) fun t99_36 =>
 M.bind (bi .rem .none t99_36 (.int .u64 4294967296)) fun t100_37 =>
 M.bind (fa 3 t5_2) fun t101_38 =>
 M.bind (st 1 true t101_38 t100_37) fun _ =>
 u07 t4_0 t5_2)
 (M.bind (bi .eql .none t15_4 (.str ⟨#[105, 54, 52]⟩)) fun t103_40 =>
 condM t103_40
 (M.bind (C u10 [(strip (strip a0)), (.int .i64 64), (.bool true)]) fun t105_41 =>
 M.bind (fa 3 t5_2) fun t106_42 =>
 M.bind (st 1 true t106_42 t105_41) fun _ =>
 u07 t4_0 t5_2)
 (M.bind (bi .eql .none t15_4 (.str ⟨#[102, 51, 50]⟩)) fun t108_44 =>
 condM t108_44
 (M.bind (C u0v [(strip (strip a0)), (.int .i64 4)]) fun t110_45 =>
 M.bind (fa 3 t5_2) fun t111_46 =>
 M.bind (st 1 true t111_46 t110_45) fun _ =>
 u07 t4_0 t5_2)
 (M.bind (bi .eql .none t15_4 (.str ⟨#[102, 54, 52]⟩)) fun t113_48 =>
 condM t113_48
 (M.bind (C u0v [(strip (strip a0)), (.int .i64 8)]) fun t115_49 =>
 M.bind (fa 3 t5_2) fun t116_50 =>
 M.bind (st 1 true t116_50 t115_49) fun _ =>
 u07 t4_0 t5_2)
 (M.bind (bi .eql .none t15_4 (.str ⟨#[104, 101, 97, 112]⟩)) fun t118_52 =>
 condM t118_52
 (M.bind (C u1o [(strip (strip a0))]) fun t120_53 =>
 M.bind (C u3c [(.bool true), (strip t120_53)]) fun t121_54 =>
 M.bind (bs true (some 3) [t121_54]) fun t122_55 =>
 M.bind (fa 15 t5_2) fun t123_56 =>
 M.bind (st 1 true t123_56 t122_55) fun _ =>
 u07 t4_0 t5_2)
 (M.bind (bi .eql .none t15_4 (.str ⟨#[99, 97, 115, 116]⟩)) fun t125_58 =>
 condM t125_58
 (M.bind (bi .rem .none (strip a1) (.int .i64 2)) fun t127_59 =>
 M.bind (bi .eql .none t127_59 (.int .i64 1)) fun t128_60 =>
 M.bind (C u1o [(strip (strip a0))]) fun t130_61 =>
 M.bind (C u3c [(strip t128_60), (strip t130_61)]) fun t131_62 =>
 M.bind (bs true (some 3) [t131_62]) fun t132_63 =>
 M.bind (fa 15 t5_2) fun t133_64 =>
 M.bind (st 1 true t133_64 t132_63) fun _ =>
 u07 t4_0 t5_2)
 (M.bind (bi .eql .none t15_4 (.str ⟨#[98, 114, 95, 99, 97, 115, 116]⟩)) fun t135_66 =>
 condM t135_66
 (M.bind (C u24 [(strip (strip a0)), (.int .u8 3)]) fun t137_67 =>
 M.bind (C u0b [(strip (strip a0))]) fun t139_68 =>
 M.bind (fa 1 t5_2) fun t140_69 =>
 M.bind (st 1 true t140_69 t139_68) fun _ =>
 M.bind (C u1o [(strip (strip a0))]) fun t142_71 =>
 M.bind (bi .rem .none (strip t137_67) (.int .u8 2)) fun t144_72 =>
 M.bind (bi .eql .none t144_72 (.int .u8 1)) fun t145_73 =>
 M.bind (C u3c [(strip t145_73), (strip (strip t142_71))]) fun t147_74 =>
 M.bind (bi .geq .none (strip t137_67) (.int .u8 2)) fun t149_75 =>
 M.bind (C u1o [(strip (strip a0))]) fun t151_76 =>
 M.bind (C u3c [(strip t149_75), (strip t151_76)]) fun t152_77 =>
 M.bind (bs true (some 3) [t147_74, t152_77]) fun t153_78 =>
 M.bind (fa 15 t5_2) fun t154_79 =>
 M.bind (st 1 true t154_79 t153_78) fun _ =>
 u07 t4_0 t5_2)
 (M.bind (bi .eql .none t15_4 (.str ⟨#[120, 110]⟩)) fun t156_81 =>
 condM t156_81
 (M.bind (C u0b [(strip (strip a0))]) fun t158_82 =>
 M.bind (fa 1 t5_2) fun t159_83 =>
 M.bind (st 1 true t159_83 t158_82) fun _ =>
 M.bind (C u0b [(strip (strip a0))]) fun t161_85 =>
 M.bind (cv (.int .u64) true t161_85) fun t162_86 =>
 M.bind (fa 3 t5_2) fun t163_87 =>
 M.bind (st 1 true t163_87 t162_86) fun _ =>
 u07 t4_0 t5_2)
 (u07 t4_0 t5_2)))))))))))))))) := by
 rw [C, u03 _ _ rfl]; kernel_rfl
noncomputable def u1s (v0 v2 v3 v4 : PV) : M PV := atP P X u1i [1, 1, 1, 1, 1, 1] (mkEnv 56 0 [(0, v0), (2, v2), (3, v3), (4, v4)])
noncomputable def u2p (v2 v4 : PV) : M PV := atP P X u1i [1, 1, 1, 1, 1, 1, 1] (mkEnv 56 0 [(2, v2), (4, v4)])
noncomputable def u26 (v0 v2 v3 v4 v5 : PV) : M PV := atP P X u1i [1, 1, 1, 1, 1, 0, 1, 0, 1, 1] (mkEnv 56 0 [(0, v0), (2, v2), (3, v3), (4, v4), (5, v5)])
theorem u6l (v0 v2 v3 v4 : PV) : u1s v0 v2 v3 v4 =
 M.bind (C u08 [(strip (strip v4))]) fun t50_0 =>
 M.bind (bi .eql .none t50_0 (.str ⟨#[]⟩)) fun t51_1 =>
 condM t51_1
 (M.bind (C u0d [(strip (strip v0)), (strip (strip v3)), (.int .i64 4)]) fun t54_2 =>
 u2p v2 v4)
 (u2p v2 v4) :=
 (u0k P X _ _ _).trans (by kernel_rfl)
theorem u3v (v2 v4 : PV) : u2p v2 v4 =
 resT v4 (M.pure v4) :=
 (u0k P X _ _ _).trans (by kernel_rfl)
theorem u0h (v0 v2 v3 v4 v5 : PV) : u26 v0 v2 v3 v4 v5 =
 M.bind (bi .mul .none (.int .i64 256) (strip v4)) fun t44_0 =>
 M.bind (bi .rem .none (strip v5) (.int .u32 256)) fun t46_1 =>
 M.bind (cv (.int .i64) true t46_1) fun t47_2 =>
 M.bind (bi .add .none t44_0 t47_2) fun t48_3 =>
 u1s v0 v2 v3 t48_3 :=
 (u0k P X _ _ _).trans (by kernel_rfl)
theorem u88 (a0 : PV) : C u1i [a0] =
 trunc (M.bind (nc P (strip a0)) fun t7_0 =>
 M.bind (fa 1 t7_0) fun t8_1 =>
 M.bind (ld none true t8_1) fun t9_2 =>
 M.bind (C u0v [(strip (strip a0)), (.int .i64 1)]) fun t11_3 =>
 M.bind (cv (.int .i64) true t11_3) fun t12_4 =>
 M.bind (nc P (strip a0)) fun t14_5 =>
 M.bind (fa 3 t14_5) fun t15_6 =>
 M.bind (ld none false t15_6) fun t16_7 =>
 M.bind (bi .neq .none t16_7 (.int .i64 0)) fun t17_8 =>
 condM t17_8
 (M.pure (.int .i64 0))
 (M.bind (bi .eql .none (strip t12_4) (.int .i64 253)) fun t19_9 =>
 condM t19_9
 (M.bind (C u0d [(strip (strip a0)), (strip (strip t9_2)), (.int .i64 8)]) fun t22_10 =>
 M.pure (.int .i64 0))
 (M.bind (bi .eql .none (strip t12_4) (.int .i64 251)) fun t24_11 =>
 M.bind (gd (strip t24_11) false (M.pure (strip t12_4))) fun t26_12 =>
 M.bind (gd (strip t24_11) false (bi .eql .none t26_12 (.int .i64 252))) fun t27_13 =>
 M.bind (pick (strip t24_11) (.bool true) t27_13) fun t28_14 =>
 condM t28_14
 (M.bind (C u0b [(strip (strip a0))]) fun t30_15 =>
 M.bind (nc P (strip a0)) fun t32_16 =>
 M.bind (fa 3 t32_16) fun t33_17 =>
 M.bind (ld none false t33_17) fun t34_18 =>
 M.bind (bi .eql .none t34_18 (.int .i64 0)) fun t35_19 =>
 M.bind (gd (strip t35_19) true (M.pure (strip t30_15))) fun t37_20 =>
 M.bind (gd (strip t35_19) true (bi .geq .none t37_20 (.int .u32 256))) fun t38_21 =>
 M.bind (pick (strip t35_19) t38_21 (.bool false)) fun t39_22 =>
 condM t39_22
 (M.bind (C u0d [(strip (strip a0)), (strip (strip t9_2)), (.int .i64 4)]) fun t42_23 =>
 u26 a0 (.int .i64 0) t9_2 t12_4 t30_15)
 (u26 a0 (.int .i64 0) t9_2 t12_4 t30_15))
 (u1s a0 (.int .i64 0) t9_2 t12_4)))) := by
 rw [C, u03 _ _ rfl]; kernel_rfl
theorem ucg (a0 : PV) : C u08 [a0] =
 trunc (M.bind (C u3s [(strip (strip a0))]) fun t8_0 =>
 M.bind (ex 0 (strip t8_0)) fun t9_1 =>
 M.bind (ex 1 (tupDrop 0 (strip t8_0))) fun t10_2 =>
 M.bind (ex 2 (tupDrop 1 (tupDrop 0 (strip t8_0)))) fun t11_3 =>
 M.bind (al [(.int .i64 0), (.str ⟨#[]⟩), (.str ⟨#[]⟩), (.str ⟨#[]⟩)]) fun t3_4 =>
 M.bind (st 4 true t3_4 t9_1) fun _ =>
 M.bind (fa 3 t3_4) fun t12_6 =>
 M.bind (ld none true t12_6) fun t13_7 =>
 resT t13_7 (M.pure t13_7)) := by
 rw [C, u03 _ _ rfl]; kernel_rfl
theorem u9j (a0 a1 : PV) : C u5u [a0, a1] =
 trunc (M.bind (bx 4 a0) fun t2_0 =>
 M.bind (bx 4 a1) fun t3_1 =>
 M.bind (fa 0 t2_0) fun t5_2 =>
 M.bind (ld none false t5_2) fun t6_3 =>
 M.bind (fa 0 t3_1) fun t7_4 =>
 M.bind (ld none false t7_4) fun t8_5 =>
 M.bind (bi .eql .none t6_3 t8_5) fun t9_6 =>
 M.bind (gd (strip t9_6) true (fa 1 t2_0)) fun t11_7 =>
 M.bind (gd (strip t9_6) true (ld (some 3) false t11_7)) fun t12_8 =>
 M.bind (gd (strip t9_6) true (fa 1 t3_1)) fun t13_9 =>
 M.bind (gd (strip t9_6) true (ld (some 3) false t13_9)) fun t14_10 =>
 M.bind (gd (strip t9_6) true (C u3u [(strip t12_8), (strip t14_10)])) fun t15_11 =>
 M.bind (pick (strip t9_6) t15_11 (.bool false)) fun t16_12 =>
 resT t16_12 (M.pure t16_12)) := by
 rw [C, u03 _ _ rfl]; kernel_rfl
end Go.Proofs.YthidcpkcfoldmaaGreat.Pi.Q
namespace Go.Proofs.YthidcpkcfoldmaaGreat.Pi.Q
open Go Go.Proofs.YthidcpkcfoldmaaGreat.Pi
noncomputable def u34 (v0 v1 v4 v5 : PV) : M PV := atP P X u3o [1, 1, 0, 1, 0] (mkEnv 27 0 [(0, v0), (1, v1), (4, v4), (5, v5)])
theorem u84 (v0 v1 v4 v5 : PV) : u34 v0 v1 v4 v5 =
 M.bind (lnL (strip v0)) fun t13_0 =>
 M.bind (bi .lss .none (strip v5) t13_0) fun t14_1 =>
 condM t14_1
 (M.bind (noPan (M.pure (strip v0))) fun t17_12 =>
 M.bind (noPan (M.pure (strip v5))) fun t18_13 =>
 M.bind (noPan (iaS 17 t17_12 t18_13)) fun t19_14 =>
 M.bind (noPan (M.pure (strip v1))) fun t21_15 =>
 M.bind (noPan (M.pure (strip v5))) fun t22_16 =>
 M.bind (noPan (iaS 17 t21_15 t22_16)) fun t23_17 =>
 M.bind (noPan (ld (some 17) false t19_14)) fun t20_18 =>
 M.bind (noPan (ld (some 17) false t23_17)) fun t24_19 =>
 M.bind (noPan (C u0c [(strip t20_18), (strip t24_19)])) fun t25_20 =>
 M.bind (noPan (un .not t25_20)) fun t26_21 =>
 condM t26_21
 (M.pure (.bool false))
 (M.bind (bi .add .none (strip v5) (.int .i64 1)) fun t16_22 =>
 u34 v0 v1 v4 t16_22))
 (M.pure (.bool true)) :=
 (u0k P X _ _ _).trans (by kernel_rfl)
theorem ua4 (a0 a1 : PV) : C u3o [a0, a1] =
 trunc (M.bind (lnL (strip a0)) fun t7_0 =>
 M.bind (lnL (strip a1)) fun t9_1 =>
 M.bind (bi .neq .none t7_0 t9_1) fun t10_2 =>
 condM t10_2
 (M.pure (.bool false))
 (u34 a0 a1 (.bool false) (.int .i64 0))) := by
 rw [C, u03 _ _ rfl]; kernel_rfl
noncomputable def u1m (v0 v1 v4 v5 : PV) : M PV := atP P X u3l [1, 1, 0, 1, 0] (mkEnv 26 0 [(0, v0), (1, v1), (4, v4), (5, v5)])
theorem u4s (v0 v1 v4 v5 : PV) : u1m v0 v1 v4 v5 =
 M.bind (lnL (strip v0)) fun t13_0 =>
 M.bind (bi .lss .none (strip v5) t13_0) fun t14_1 =>
 condM t14_1
 (nb (iaS 3 (strip v0) (strip v5)) fun t19_2 =>
 nb (ld (some 3) false t19_2) fun t20_3 =>
 nb (iaS 3 (strip v1) (strip v5)) fun t23_4 =>
 nb (ld (some 3) false t23_4) fun t24_5 =>
 nb (bi .neq (.struct [.int, .int, .int]) t20_3 t24_5) fun t25_6 =>
 condM t25_6
 (M.pure (.bool false))
 (M.bind (bi .add .none (strip v5) (.int .i64 1)) fun t16_7 =>
 u1m v0 v1 v4 t16_7))
 (M.pure (.bool true)) :=
 (u0k P X _ _ _).trans (by kernel_rfl)
theorem u94 (a0 a1 : PV) : C u3l [a0, a1] =
 trunc (M.bind (lnL (strip a0)) fun t7_0 =>
 M.bind (lnL (strip a1)) fun t9_1 =>
 M.bind (bi .neq .none t7_0 t9_1) fun t10_2 =>
 condM t10_2
 (M.pure (.bool false))
 (u1m a0 a1 (.bool false) (.int .i64 0))) := by
 rw [C, u03 _ _ rfl]; kernel_rfl
noncomputable def u1q (v0 v1 v4 v5 : PV) : M PV := atP P X u3y [1, 1, 0, 1, 0] (mkEnv 26 0 [(0, v0), (1, v1), (4, v4), (5, v5)])
theorem u4z (v0 v1 v4 v5 : PV) : u1q v0 v1 v4 v5 =
 M.bind (lnL (strip v0)) fun t13_0 =>
 M.bind (bi .lss .none (strip v5) t13_0) fun t14_1 =>
 condM t14_1
 (nb (iaS 1 (strip v0) (strip v5)) fun t19_2 =>
 nb (ld none false t19_2) fun t20_3 =>
 nb (iaS 1 (strip v1) (strip v5)) fun t23_4 =>
 nb (ld none false t23_4) fun t24_5 =>
 nb (bi .neq .none t20_3 t24_5) fun t25_6 =>
 condM t25_6
 (M.pure (.bool false))
 (M.bind (bi .add .none (strip v5) (.int .i64 1)) fun t16_7 =>
 u1q v0 v1 v4 t16_7))
 (M.pure (.bool true)) :=
 (u0k P X _ _ _).trans (by kernel_rfl)
theorem u9e (a0 a1 : PV) : C u3y [a0, a1] =
 trunc (M.bind (lnL (strip a0)) fun t7_0 =>
 M.bind (lnL (strip a1)) fun t9_1 =>
 M.bind (bi .neq .none t7_0 t9_1) fun t10_2 =>
 condM t10_2
 (M.pure (.bool false))
 (u1q a0 a1 (.bool false) (.int .i64 0))) := by
 rw [C, u03 _ _ rfl]; kernel_rfl
noncomputable def u20 (v0 v1 v4 v5 : PV) : M PV := atP P X u3a [1, 1, 0, 1, 0] (mkEnv 27 0 [(0, v0), (1, v1), (4, v4), (5, v5)])
theorem u5h (v0 v1 v4 v5 : PV) : u20 v0 v1 v4 v5 =
 M.bind (lnL (strip v0)) fun t13_0 =>
 M.bind (bi .lss .none (strip v5) t13_0) fun t14_1 =>
 condM t14_1
 (M.bind (noPan (M.pure (strip v0))) fun t17_12 =>
 M.bind (noPan (M.pure (strip v5))) fun t18_13 =>
 M.bind (noPan (iaS 3 t17_12 t18_13)) fun t19_14 =>
 M.bind (noPan (M.pure (strip v1))) fun t21_15 =>
 M.bind (noPan (M.pure (strip v5))) fun t22_16 =>
 M.bind (noPan (iaS 3 t21_15 t22_16)) fun t23_17 =>
 M.bind (noPan (ld (some 3) false t19_14)) fun t20_18 =>
 M.bind (noPan (ld (some 3) false t23_17)) fun t24_19 =>
 M.bind (noPan (C u3u [(strip t20_18), (strip t24_19)])) fun t25_20 =>
 M.bind (noPan (un .not t25_20)) fun t26_21 =>
 condM t26_21
 (M.pure (.bool false))
 (M.bind (bi .add .none (strip v5) (.int .i64 1)) fun t16_22 =>
 u20 v0 v1 v4 t16_22))
 (M.pure (.bool true)) :=
 (u0k P X _ _ _).trans (by kernel_rfl)
theorem u9x (a0 a1 : PV) : C u3a [a0, a1] =
 trunc (M.bind (lnL (strip a0)) fun t7_0 =>
 M.bind (lnL (strip a1)) fun t9_1 =>
 M.bind (bi .neq .none t7_0 t9_1) fun t10_2 =>
 condM t10_2
 (M.pure (.bool false))
 (u20 a0 a1 (.bool false) (.int .i64 0))) := by
 rw [C, u03 _ _ rfl]; kernel_rfl
theorem uk1 (a0 : PV) : C uez [a0] =
 trunc (M.bind (C u7m [(strip (strip a0))]) fun t4_0 =>
 M.bind (fd 1 none t4_0) fun t5_1 =>
 resT t5_1 (M.pure t5_1)) := by
 rw [C, u03 _ _ rfl]; kernel_rfl
theorem ujn (a0 : PV) : C u7m [a0] =
 trunc (M.bind (al [(.int .i64 0), (.str ⟨#[]⟩), (.int .i64 0)]) fun t2_0 =>
 M.bind (bi .geq .none (strip a0) (.int .i64 0)) fun t4_1 =>
 M.bind (gd (strip t4_1) true (M.pure (strip a0))) fun t6_2 =>
 M.bind (gd (strip t4_1) true (bi .leq .none t6_2 (.int .i64 196))) fun t7_3 =>
 M.bind (pick (strip t4_1) t7_3 (.bool false)) fun t8_4 =>
 condM t8_4
 (M.bind (C u97 []) fun t9_5 =>
 M.bind (C u7d [(strip t9_5), (strip (strip a0))]) fun t11_6 =>
 M.bind (st 3 true t2_0 t11_6) fun _ =>
 M.bind (ld (some 3) true t2_0) fun t0_8 => guardM (!isTup t0_8) (M.pure t0_8))
 (M.bind (C u9p []) fun t12_9 =>
 M.bind (C u7d [(strip t12_9), (strip (strip a0))]) fun t14_10 =>
 M.bind (st 3 true t2_0 t14_10) fun _ =>
 M.bind (ld (some 3) true t2_0) fun t0_12 => guardM (!isTup t0_12) (M.pure t0_12))) := by
 rw [C, u03 _ _ rfl]; kernel_rfl
theorem u6r (a0 : PV) : C u21 [a0] =
 trunc (M.pure (.tup [])) := by
 rw [C, u03 _ _ rfl]; kernel_rfl
theorem ub2 (a0 : PV) : C u3f [a0] =
 trunc (M.bind (C u69 [(strip (strip a0)), (.fn u5x [] [])]) fun t4_0 =>
 M.bind (nc P (strip a0)) fun t5_1 =>
 M.bind (fa 2 t5_1) fun t6_2 =>
 M.bind (fa 7 t6_2) fun t7_3 =>
 M.bind (st 4 true t7_3 t4_0) fun _ =>
 M.pure (.tup [])) := by
 rw [C, u03 _ _ rfl]; kernel_rfl
noncomputable def u3p (v0 v6 v7 : PV) : M PV := atP P X u3d [1, 1, 0] (mkEnv 40 0 [(0, v0), (6, v6), (7, v7)])
noncomputable def u4h (v0 v2 v6 v7 : PV) : M PV := atP P X u3d [1, 1, 0, 0, 1, 1, 0, 0, 1, 1] (mkEnv 40 0 [(0, v0), (2, v2), (6, v6), (7, v7)])
theorem u75 (v0 v6 v7 : PV) : u3p v0 v6 v7 =
 M.bind (bi .lss .none v7 v6) fun t8_0 =>
 condM t8_0
 (M.bind (C u2n [(strip (strip v0)), (.int .u8 3)]) fun t10_1 =>
 M.bind (cv (.int .i64) true t10_1) fun t11_2 =>
 M.bind (bd [(.int .i64 0), (.int .u32 0), (.int .u32 0)] [(0, 1, t11_2)]) fun t12_3 =>
 M.bind (al [(.int .i64 0), (.int .u32 0), (.int .u32 0)]) fun t2_4 =>
 M.bind (st 3 true t2_4 t12_3) fun _ =>
 M.bind (fa 0 t2_4) fun t13_6 =>
 M.bind (ld none false t13_6) fun t14_7 =>
 M.bind (bi .lss .none t14_7 (.int .i64 2)) fun t15_8 =>
 condM t15_8
 (M.bind (C u0t [(strip (strip v0))]) fun t17_9 =>
 M.bind (fa 1 t2_4) fun t18_10 =>
 M.bind (st 1 true t18_10 t17_9) fun _ =>
 u4h v0 t2_4 v6 v7)
 (u4h v0 t2_4 v6 v7))
 (M.pure (.tup [])) :=
 (u0k P X _ _ _).trans (by kernel_rfl)
theorem u29 (v0 v2 v6 v7 : PV) : u4h v0 v2 v6 v7 =
 M.bind (C u0t [(strip (strip v0))]) fun t20_0 =>
 M.bind (fa 2 v2) fun t21_1 =>
 M.bind (st 1 true t21_1 t20_0) fun _ =>
 M.bind (nc P (strip v0)) fun t23_3 =>
 M.bind (fa 20 t23_3) fun t24_4 =>
 M.bind (ld none false t24_4) fun t25_5 =>
 M.bind (bi .neq .none t25_5 (.int .i64 0)) fun t26_6 =>
 condM t26_6
 (M.pure (.tup []))
 (chk
 (M.bind (noPan (M.pure (strip v0))) fun t27_20 =>
 M.bind (noPan (M.pure (strip v0))) fun t28_21 =>
 M.bind (noPan (nc P t28_21)) fun t29_22 =>
 M.bind (noPan (fa 2 t29_22)) fun t30_23 =>
 M.bind (noPan (fa 16 t30_23)) fun t31_24 =>
 M.bind (noPan (ld (some 3) false v2)) fun t33_25 =>
 M.bind (noPan (bs true (some 3) [t33_25])) fun t34_26 =>
 M.bind (noPan (ld none true t31_24)) fun t32_27 =>
 M.bind (noPan (ap true 3 16 t32_27 t34_26)) fun t35_28 =>
 M.bind (noPan (nc P t27_20)) fun t36_29 =>
 M.bind (noPan (fa 2 t36_29)) fun t37_30 =>
 M.bind (noPan (fa 16 t37_30)) fun t38_31 =>
 M.bind (noPan (st 1 true t38_31 t35_28)) fun _ =>
 M.pure [v0, .undef, v2, .undef, .undef, .undef, v6, v7, .undef, .undef, .undef, .undef, .undef, .undef, .undef, .undef, .undef, .undef, .undef, (strip v0), (strip t20_0), t21_1, (strip v0), t23_3, t24_4, t25_5, t26_6, t27_20, t28_21, t29_22, t30_23, t31_24, (strip t32_27), t33_25, t34_26, (strip t35_28), t36_29, t37_30, t38_31, .undef])
 (M.bind (noPan (M.pure (strip v0))) fun t27_7 =>
 M.bind (noPan (M.pure (strip v0))) fun t28_8 =>
 M.bind (noPan (nc P t28_8)) fun t29_9 =>
 M.bind (noPan (fa 2 t29_9)) fun t30_10 =>
 M.bind (noPan (fa 16 t30_10)) fun t31_11 =>
 M.bind (noPan (ld none true t31_11)) fun t32_12 =>
 M.bind (noPan (ld (some 3) false v2)) fun t33_13 =>
 M.bind (noPan (bs true (some 3) [t33_13])) fun t34_14 =>
 M.bind (noPan (ap true 3 16 t32_12 t34_14)) fun t35_15 =>
 M.bind (noPan (nc P t27_7)) fun t36_16 =>
 M.bind (noPan (fa 2 t36_16)) fun t37_17 =>
 M.bind (noPan (fa 16 t37_17)) fun t38_18 =>
 M.bind (noPan (st 1 true t38_18 t35_15)) fun _ =>
 M.pure [v0, .undef, v2, .undef, .undef, .undef, v6, v7, .undef, .undef, .undef, .undef, .undef, .undef, .undef, .undef, .undef, .undef, .undef, (strip v0), (strip t20_0), t21_1, (strip v0), t23_3, t24_4, t25_5, t26_6, t27_7, t28_8, t29_9, t30_10, t31_11, (strip t32_12), t33_13, t34_14, (strip t35_15), t36_16, t37_17, t38_18, .undef]) <|
 M.bind (noPan (M.pure (strip v0))) fun t27_33 =>
 M.bind (noPan (M.pure (strip v0))) fun t28_34 =>
 M.bind (noPan (nc P t28_34)) fun t29_35 =>
 M.bind (noPan (fa 2 t29_35)) fun t30_36 =>
 M.bind (noPan (fa 16 t30_36)) fun t31_37 =>
 M.bind (noPan (ld none true t31_37)) fun t32_38 =>
 M.bind (noPan (ld (some 3) false v2)) fun t33_39 =>
 M.bind (noPan (bs true (some 3) [t33_39])) fun t34_40 =>
 M.bind (noPan (ap true 3 16 t32_38 t34_40)) fun t35_41 =>
 M.bind (noPan (nc P t27_33)) fun t36_42 =>
 M.bind (noPan (fa 2 t36_42)) fun t37_43 =>
 M.bind (noPan (fa 16 t37_43)) fun t38_44 =>
 M.bind (noPan (st 1 true t38_44 t35_41)) fun _ =>
 M.bind (bi .add .none v7 (.int .u32 1)) fun t39_46 =>
 u3p v0 v6 (strip t39_46)) :=
 (u0k P X _ _ _).trans (by kernel_rfl)
theorem uct (a0 : PV) : C u3d [a0] =
 trunc (M.bind (C u3f [(strip (strip a0))]) fun t4_0 =>
 M.bind (C u2w [(strip (strip a0)), (.int .u32 65536), (.int .i64 2)]) fun t6_1 =>
 u3p a0 t6_1 (.int .u32 0)) := by
 rw [C, u03 _ _ rfl]; kernel_rfl
theorem uep (a0 : PV) : C u4f [a0] =
 trunc (M.bind (C u0t [(strip (strip a0))]) fun t4_0 =>
 M.bind (nc P (strip a0)) fun t5_1 =>
 M.bind (fa 2 t5_1) fun t6_2 =>
 M.bind (fa 1 t6_2) fun t7_3 =>
 M.bind (st 1 true t7_3 t4_0) fun _ =>
 M.pure (.tup [])) := by
 rw [C, u03 _ _ rfl]; kernel_rfl
theorem udt (a0 : PV) : C u5q [a0] =
 trunc (M.bind (C u0t [(strip (strip a0))]) fun t4_0 =>
 M.bind (nc P (strip a0)) fun t5_1 =>
 M.bind (fa 2 t5_1) fun t6_2 =>
 M.bind (fa 1 t6_2) fun t7_3 =>
 M.bind (st 1 true t7_3 t4_0) fun _ =>
 M.bind (C u0t [(strip (strip a0))]) fun t10_5 =>
 M.bind (nc P (strip a0)) fun t11_6 =>
 M.bind (fa 2 t11_6) fun t12_7 =>
 M.bind (fa 2 t12_7) fun t13_8 =>
 M.bind (st 1 true t13_8 t10_5) fun _ =>
 M.pure (.tup [])) := by
 rw [C, u03 _ _ rfl]; kernel_rfl
noncomputable def u4a (v0 v3 v4 : PV) : M PV := atP P X u3e [0, 1, 0] (mkEnv 27 0 [(0, v0), (3, v3), (4, v4)])
theorem u6n (v0 v3 v4 : PV) : u4a v0 v3 v4 =
 M.bind (bi .lss .none v4 v3) fun t5_0 =>
 condM t5_0
 (chk
 (M.bind (noPan (M.pure (strip v0))) fun t6_15 =>
 M.bind (noPan (M.pure (strip v0))) fun t7_16 =>
 M.bind (noPan (nc P t7_16)) fun t8_17 =>
 M.bind (noPan (fa 2 t8_17)) fun t9_18 =>
 M.bind (noPan (fa 14 t9_18)) fun t10_19 =>
 M.bind (noPan (M.pure (strip v0))) fun t12_20 =>
 M.bind (noPan (C u0t [(strip t12_20)])) fun t13_21 =>
 M.bind (noPan (bs true none [t13_21])) fun t14_22 =>
 M.bind (noPan (ld none true t10_19)) fun t11_23 =>
 M.bind (noPan (ap true 1 4 t11_23 t14_22)) fun t15_24 =>
 M.bind (noPan (nc P t6_15)) fun t16_25 =>
 M.bind (noPan (fa 2 t16_25)) fun t17_26 =>
 M.bind (noPan (fa 14 t17_26)) fun t18_27 =>
 M.bind (noPan (st 1 true t18_27 t15_24)) fun _ =>
 M.pure [v0, .undef, .undef, v3, v4, t5_0, t6_15, t7_16, t8_17, t9_18, t10_19, (strip t11_23), t12_20, t13_21, t14_22, (strip t15_24), t16_25, t17_26, t18_27, .undef, .undef, .undef, .undef, .undef, .undef, .undef, .undef])
 (M.bind (noPan (M.pure (strip v0))) fun t6_1 =>
 M.bind (noPan (M.pure (strip v0))) fun t7_2 =>
 M.bind (noPan (nc P t7_2)) fun t8_3 =>
 M.bind (noPan (fa 2 t8_3)) fun t9_4 =>
 M.bind (noPan (fa 14 t9_4)) fun t10_5 =>
 M.bind (noPan (M.pure (strip v0))) fun t12_6 =>
 M.bind (noPan (ld none true t10_5)) fun t11_7 =>
 M.bind (noPan (C u0t [(strip t12_6)])) fun t13_8 =>
 M.bind (noPan (bs true none [t13_8])) fun t14_9 =>
 M.bind (noPan (ap true 1 4 t11_7 t14_9)) fun t15_10 =>
 M.bind (noPan (nc P t6_1)) fun t16_11 =>
 M.bind (noPan (fa 2 t16_11)) fun t17_12 =>
 M.bind (noPan (fa 14 t17_12)) fun t18_13 =>
 M.bind (noPan (st 1 true t18_13 t15_10)) fun _ =>
 M.pure [v0, .undef, .undef, v3, v4, t5_0, t6_1, t7_2, t8_3, t9_4, t10_5, (strip t11_7), t12_6, t13_8, t14_9, (strip t15_10), t16_11, t17_12, t18_13, .undef, .undef, .undef, .undef, .undef, .undef, .undef, .undef]) <|
 M.bind (noPan (M.pure (strip v0))) fun t6_29 =>
 M.bind (noPan (M.pure (strip v0))) fun t7_30 =>
 M.bind (noPan (nc P t7_30)) fun t8_31 =>
 M.bind (noPan (fa 2 t8_31)) fun t9_32 =>
 M.bind (noPan (fa 14 t9_32)) fun t10_33 =>
 M.bind (noPan (M.pure (strip v0))) fun t12_34 =>
 M.bind (noPan (ld none true t10_33)) fun t11_35 =>
 M.bind (noPan (C u0t [(strip t12_34)])) fun t13_36 =>
 M.bind (noPan (bs true none [t13_36])) fun t14_37 =>
 M.bind (noPan (ap true 1 4 t11_35 t14_37)) fun t15_38 =>
 M.bind (noPan (nc P t6_29)) fun t16_39 =>
 M.bind (noPan (fa 2 t16_39)) fun t17_40 =>
 M.bind (noPan (fa 14 t17_40)) fun t18_41 =>
 M.bind (noPan (st 1 true t18_41 t15_38)) fun _ =>
 M.bind (nc P (strip v0)) fun t20_43 =>
 M.bind (fa 20 t20_43) fun t21_44 =>
 M.bind (ld none false t21_44) fun t22_45 =>
 M.bind (bi .neq .none t22_45 (.int .i64 0)) fun t23_46 =>
 condM t23_46
 (M.pure (.tup []))
 (M.bind (bi .add .none v4 (.int .u32 1)) fun t24_47 =>
 u4a v0 v3 (strip t24_47)))
 (M.bind (C u4f [(strip (strip v0))]) fun t26_48 =>
 M.pure (.tup [])) :=
 (u0k P X _ _ _).trans (by kernel_rfl)
theorem uas (a0 : PV) : C u3e [a0] =
 trunc (M.bind (C u2w [(strip (strip a0)), (.int .u32 65536), (.int .i64 2)]) fun t3_0 =>
 u4a a0 t3_0 (.int .u32 0)) := by
 rw [C, u03 _ _ rfl]; kernel_rfl
end Go.Proofs.YthidcpkcfoldmaaGreat.Pi.Q
namespace Go.Proofs.YthidcpkcfoldmaaGreat.Pi.Q
open Go Go.Proofs.YthidcpkcfoldmaaGreat.Pi
noncomputable def u45 (v0 v3 v4 : PV) : M PV := atP P X u2y [1, 0] (mkEnv 25 0 [(0, v0), (3, v3), (4, v4)])
theorem u6m (v0 v3 v4 : PV) : u45 v0 v3 v4 =
 M.bind (bi .lss .none v4 v3) fun t5_0 =>
 condM t5_0
 (chk
 (M.bind (noPan (M.pure (strip v0))) fun t6_15 =>
 M.bind (noPan (M.pure (strip v0))) fun t7_16 =>
 M.bind (noPan (nc P t7_16)) fun t8_17 =>
 M.bind (noPan (fa 2 t8_17)) fun t9_18 =>
 M.bind (noPan (fa 15 t9_18)) fun t10_19 =>
 M.bind (noPan (M.pure (strip v0))) fun t12_20 =>
 M.bind (noPan (C u28 [(strip t12_20), (.fn u43 [] [])])) fun t13_21 =>
 M.bind (noPan (bs true (some 3) [t13_21])) fun t14_22 =>
 M.bind (noPan (ld none true t10_19)) fun t11_23 =>
 M.bind (noPan (ap true 3 24 t11_23 t14_22)) fun t15_24 =>
 M.bind (noPan (nc P t6_15)) fun t16_25 =>
 M.bind (noPan (fa 2 t16_25)) fun t17_26 =>
 M.bind (noPan (fa 15 t17_26)) fun t18_27 =>
 M.bind (noPan (st 1 true t18_27 t15_24)) fun _ =>
 M.pure [v0, .undef, .undef, v3, v4, t5_0, t6_15, t7_16, t8_17, t9_18, t10_19, (strip t11_23), t12_20, t13_21, t14_22, (strip t15_24), t16_25, t17_26, t18_27, .undef, .undef, .undef, .undef, .undef, .undef])
 (M.bind (noPan (M.pure (strip v0))) fun t6_1 =>
 M.bind (noPan (M.pure (strip v0))) fun t7_2 =>
 M.bind (noPan (nc P t7_2)) fun t8_3 =>
 M.bind (noPan (fa 2 t8_3)) fun t9_4 =>
 M.bind (noPan (fa 15 t9_4)) fun t10_5 =>
 M.bind (noPan (M.pure (strip v0))) fun t12_6 =>
 M.bind (noPan (ld none true t10_5)) fun t11_7 =>
 M.bind (noPan (C u28 [(strip t12_6), (.fn u43 [] [])])) fun t13_8 =>
 M.bind (noPan (bs true (some 3) [t13_8])) fun t14_9 =>
 M.bind (noPan (ap true 3 24 t11_7 t14_9)) fun t15_10 =>
 M.bind (noPan (nc P t6_1)) fun t16_11 =>
 M.bind (noPan (fa 2 t16_11)) fun t17_12 =>
 M.bind (noPan (fa 15 t17_12)) fun t18_13 =>
 M.bind (noPan (st 1 true t18_13 t15_10)) fun _ =>
 M.pure [v0, .undef, .undef, v3, v4, t5_0, t6_1, t7_2, t8_3, t9_4, t10_5, (strip t11_7), t12_6, t13_8, t14_9, (strip t15_10), t16_11, t17_12, t18_13, .undef, .undef, .undef, .undef, .undef, .undef]) <|
 M.bind (noPan (M.pure (strip v0))) fun t6_29 =>
 M.bind (noPan (M.pure (strip v0))) fun t7_30 =>
 M.bind (noPan (nc P t7_30)) fun t8_31 =>
 M.bind (noPan (fa 2 t8_31)) fun t9_32 =>
 M.bind (noPan (fa 15 t9_32)) fun t10_33 =>
 M.bind (noPan (M.pure (strip v0))) fun t12_34 =>
 M.bind (noPan (ld none true t10_33)) fun t11_35 =>
 M.bind (noPan (C u28 [(strip t12_34), (.fn u43 [] [])])) fun t13_36 =>
 M.bind (noPan (bs true (some 3) [t13_36])) fun t14_37 =>
 M.bind (noPan (ap true 3 24 t11_35 t14_37)) fun t15_38 =>
 M.bind (noPan (nc P t6_29)) fun t16_39 =>
 M.bind (noPan (fa 2 t16_39)) fun t17_40 =>
 M.bind (noPan (fa 15 t17_40)) fun t18_41 =>
 M.bind (noPan (st 1 true t18_41 t15_38)) fun _ =>
 M.bind (nc P (strip v0)) fun t20_43 =>
 M.bind (fa 20 t20_43) fun t21_44 =>
 M.bind (ld none false t21_44) fun t22_45 =>
 M.bind (bi .neq .none t22_45 (.int .i64 0)) fun t23_46 =>
 condM t23_46
 (M.pure (.tup []))
 (M.bind (bi .add .none v4 (.int .u32 1)) fun t24_47 =>
 u45 v0 v3 (strip t24_47)))
 (M.pure (.tup [])) :=
 (u0k P X _ _ _).trans (by kernel_rfl)
theorem uam (a0 : PV) : C u2y [a0] =
 trunc (M.bind (C u2w [(strip (strip a0)), (.int .u32 1000), (.int .i64 2)]) fun t3_0 =>
 u45 a0 t3_0 (.int .u32 0)) := by
 rw [C, u03 _ _ rfl]; kernel_rfl
noncomputable def u68 (v0 : PV) : M PV := atP P X u49 [1, 1, 1] (mkEnv 29 0 [(0, v0)])
theorem u76 (v0 : PV) : u68 v0 =
 M.bind (C u22 [(.fn u6v [] [])]) fun t23_0 =>
 M.bind (C u3q [(strip (strip v0)), (strip t23_0)]) fun t24_1 =>
 M.bind (nc P (strip v0)) fun t25_2 =>
 M.bind (fa 2 t25_2) fun t26_3 =>
 M.bind (fa 4 t26_3) fun t27_4 =>
 M.bind (fa 2 t27_4) fun t28_5 =>
 M.bind (st 1 true t28_5 t24_1) fun _ =>
 M.pure (.tup []) :=
 (u0k P X _ _ _).trans (by kernel_rfl)
theorem ud4 (a0 : PV) : C u49 [a0] =
 trunc (M.bind (C u2w [(strip (strip a0)), (.int .u32 127), (.int .i64 4)]) fun t4_0 =>
 M.bind (bi .and .none (strip t4_0) (.int .u32 63)) fun t7_1 =>
 M.bind (nc P (strip a0)) fun t8_2 =>
 M.bind (fa 2 t8_2) fun t9_3 =>
 M.bind (fa 4 t9_3) fun t10_4 =>
 M.bind (fa 0 t10_4) fun t11_5 =>
 M.bind (st 1 true t11_5 t7_1) fun _ =>
 M.bind (bi .gtr .none (strip t4_0) (.int .u32 63)) fun t13_7 =>
 condM t13_7
 (M.bind (C u0t [(strip (strip a0))]) fun t16_8 =>
 M.bind (nc P (strip a0)) fun t17_9 =>
 M.bind (fa 2 t17_9) fun t18_10 =>
 M.bind (fa 4 t18_10) fun t19_11 =>
 M.bind (fa 1 t19_11) fun t20_12 =>
 M.bind (st 1 true t20_12 t16_8) fun _ =>
 u68 a0)
 (u68 a0)) := by
 rw [C, u03 _ _ rfl]; kernel_rfl
theorem ucx (a0 : PV) : C u5b [a0] =
 trunc (M.bind (C u5e [(.fn u7e [] [])]) fun t4_0 =>
 M.bind (C u6d [(strip (strip a0)), (strip t4_0)]) fun t5_1 =>
 M.bind (cv (.int .u32) true t5_1) fun t6_2 =>
 M.bind (cv (.int .u64) true t6_2) fun t7_3 =>
 M.bind (nc P (strip a0)) fun t8_4 =>
 M.bind (fa 2 t8_4) fun t9_5 =>
 M.bind (fa 3 t9_5) fun t10_6 =>
 M.bind (st 1 true t10_6 t7_3) fun _ =>
 M.pure (.tup [])) := by
 rw [C, u03 _ _ rfl]; kernel_rfl
theorem udg (a0 : PV) : C u5c [a0] =
 trunc (M.bind (C u59 [(.fn u77 [] [])]) fun t4_0 =>
 M.bind (C u6e [(strip (strip a0)), (strip t4_0)]) fun t5_1 =>
 M.bind (cv (.int .u64) true t5_1) fun t6_2 =>
 M.bind (nc P (strip a0)) fun t7_3 =>
 M.bind (fa 2 t7_3) fun t8_4 =>
 M.bind (fa 3 t8_4) fun t9_5 =>
 M.bind (st 1 true t9_5 t6_2) fun _ =>
 M.pure (.tup [])) := by
 rw [C, u03 _ _ rfl]; kernel_rfl
theorem ucy (a0 : PV) : C u5a [a0] =
 trunc (M.bind (C u2r [(.fn u7c [] [])]) fun t4_0 =>
 M.bind (C u3r [(strip (strip a0)), (strip t4_0)]) fun t5_1 =>
 M.bind (cv (.int .u64) true t5_1) fun t6_2 =>
 M.bind (nc P (strip a0)) fun t7_3 =>
 M.bind (fa 2 t7_3) fun t8_4 =>
 M.bind (fa 3 t8_4) fun t9_5 =>
 M.bind (st 1 true t9_5 t6_2) fun _ =>
 M.pure (.tup [])) := by
 rw [C, u03 _ _ rfl]; kernel_rfl
theorem udd (a0 : PV) : C u5d [a0] =
 trunc (M.bind (C u22 [(.fn u7f [] [])]) fun t4_0 =>
 M.bind (C u3q [(strip (strip a0)), (strip t4_0)]) fun t5_1 =>
 M.bind (nc P (strip a0)) fun t6_2 =>
 M.bind (fa 2 t6_2) fun t7_3 =>
 M.bind (fa 3 t7_3) fun t8_4 =>
 M.bind (st 1 true t8_4 t5_1) fun _ =>
 M.pure (.tup [])) := by
 rw [C, u03 _ _ rfl]; kernel_rfl
theorem uc9 (a0 : PV) : C u4v [a0] =
 trunc (M.bind (C u48 [(strip (strip a0)), (.bool true)]) fun t3_0 =>
 M.pure (.tup [])) := by
 rw [C, u03 _ _ rfl]; kernel_rfl
theorem ucf (a0 : PV) : C u4w [a0] =
 trunc (M.bind (nc P (strip a0)) fun t4_0 =>
 M.bind (fa 2 t4_0) fun t5_1 =>
 M.bind (fa 0 t5_1) fun t6_2 =>
 M.bind (ld none false t6_2) fun t7_3 =>
 M.bind (bi .and .none t7_3 (.int .i64 1)) fun t8_4 =>
 M.bind (bi .eql .none t8_4 (.int .i64 1)) fun t9_5 =>
 M.bind (C u48 [(strip (strip a0)), (strip t9_5)]) fun t10_6 =>
 M.pure (.tup [])) := by
 rw [C, u03 _ _ rfl]; kernel_rfl
theorem uaq (a0 : PV) : C u44 [a0] =
 trunc (M.bind (C u2n [(strip (strip a0)), (.int .u8 3)]) fun t4_0 =>
 M.bind (C u4f [(strip (strip a0))]) fun t6_1 =>
 M.bind (bi .and .none (strip t4_0) (.int .u8 1)) fun t9_2 =>
 M.bind (bi .neq .none t9_2 (.int .u8 0)) fun t10_3 =>
 M.bind (C u48 [(strip (strip a0)), (strip t10_3)]) fun t11_4 =>
 M.bind (bi .and .none (strip t4_0) (.int .u8 2)) fun t14_5 =>
 M.bind (bi .neq .none t14_5 (.int .u8 0)) fun t15_6 =>
 M.bind (C u48 [(strip (strip a0)), (strip t15_6)]) fun t16_7 =>
 M.pure (.tup [])) := by
 rw [C, u03 _ _ rfl]; kernel_rfl
theorem udw (a0 : PV) : C u5o [a0] =
 trunc (M.bind (C u0t [(strip (strip a0))]) fun t4_0 =>
 M.bind (nc P (strip a0)) fun t5_1 =>
 M.bind (fa 2 t5_1) fun t6_2 =>
 M.bind (fa 1 t6_2) fun t7_3 =>
 M.bind (st 1 true t7_3 t4_0) fun _ =>
 M.bind (C u0t [(strip (strip a0))]) fun t10_5 =>
 M.bind (cv (.int .u64) true t10_5) fun t11_6 =>
 M.bind (nc P (strip a0)) fun t12_7 =>
 M.bind (fa 2 t12_7) fun t13_8 =>
 M.bind (fa 3 t13_8) fun t14_9 =>
 M.bind (st 1 true t14_9 t11_6) fun _ =>
 M.pure (.tup [])) := by
 rw [C, u03 _ _ rfl]; kernel_rfl
noncomputable def u63 (v0 v1 v4 : PV) : M PV := atP P X u2n [1, 1] (mkEnv 62 0 [(0, v0), (1, v1), (4, v4)])
noncomputable def u50 (v0 v4 v5 : PV) : M PV := atP P X u2n [1, 1, 1, 1, 1] (mkEnv 62 0 [(0, v0), (4, v4), (5, v5)])
theorem u3k (v0 v1 v4 : PV) : u63 v0 v1 v4 =
 M.bind (nc P (strip v0)) fun t31_0 =>
 M.bind (fa 20 t31_0) fun t32_1 =>
 M.bind (ld none false t32_1) fun t33_2 =>
 M.bind (bi .neq .none t33_2 (.int .i64 0)) fun t34_3 =>
 condM t34_3
 (M.pure (.int .u8 0))
 (nb (nc P (strip v0)) fun t36_4 =>
 nb (fa 0 t36_4) fun t37_5 =>
 nb (ld none false t37_5) fun t38_6 =>
 nb (nc P (strip v0)) fun t40_7 =>
 nb (fa 1 t40_7) fun t41_8 =>
 nb (ld none false t41_8) fun t42_9 =>
 nb (iaS 1 t38_6 t42_9) fun t43_10 =>
 nb (ld none true t43_10) fun t44_11 =>
 M.bind (bi .gtr .none (strip t44_11) (strip v1)) fun t47_12 =>
 condM t47_12
 (M.bind (nc P (strip v0)) fun t50_13 =>
 M.bind (fa 1 t50_13) fun t51_14 =>
 M.bind (ld none false t51_14) fun t52_15 =>
 M.bind (C u0r [(strip (strip v0)), (strip t52_15), (.int .i64 4)]) fun t53_16 =>
 u50 v0 v4 t44_11)
 (u50 v0 v4 t44_11)) :=
 (u0k P X _ _ _).trans (by kernel_rfl)
theorem u66 (v0 v4 v5 : PV) : u50 v0 v4 v5 =
 M.bind (nc P (strip v0)) fun t55_0 =>
 M.bind (fa 1 t55_0) fun t56_1 =>
 M.bind (ld none false t56_1) fun t57_2 =>
 M.bind (bi .add .none t57_2 (.int .i64 1)) fun t58_3 =>
 M.bind (nc P (strip v0)) fun t59_4 =>
 M.bind (fa 1 t59_4) fun t60_5 =>
 M.bind (st 1 true t60_5 t58_3) fun _ =>
 resT v5 (M.pure v5) :=
 (u0k P X _ _ _).trans (by kernel_rfl)
theorem ub7 (a0 a1 : PV) : C u2n [a0, a1] =
 trunc (nb (nc P (strip a0)) fun t7_0 =>
 nb (fa 20 t7_0) fun t8_1 =>
 nb (ld none false t8_1) fun t9_2 =>
 nb (bi .eql .none t9_2 (.int .i64 0)) fun t10_3 =>
 nb (gd (strip t10_3) true (M.pure (strip a0))) fun t12_4 =>
 nb (gd (strip t10_3) true (nc P t12_4)) fun t13_5 =>
 nb (gd (strip t10_3) true (fa 1 t13_5)) fun t14_6 =>
 nb (gd (strip t10_3) true (ld none false t14_6)) fun t15_7 =>
 nb (gd (strip t10_3) true (M.pure (strip a0))) fun t16_8 =>
 nb (gd (strip t10_3) true (nc P t16_8)) fun t17_9 =>
 nb (gd (strip t10_3) true (fa 0 t17_9)) fun t18_10 =>
 nb (gd (strip t10_3) true (ld none false t18_10)) fun t19_11 =>
 nb (gd (strip t10_3) true (lnL t19_11)) fun t20_12 =>
 nb (gd (strip t10_3) true (bi .geq .none t15_7 t20_12)) fun t21_13 =>
 nb (pick (strip t10_3) t21_13 (.bool false)) fun t22_14 =>
 condM t22_14
 (M.bind (nc P (strip a0)) fun t25_15 =>
 M.bind (fa 0 t25_15) fun t26_16 =>
 M.bind (ld none false t26_16) fun t27_17 =>
 M.bind (lnL t27_17) fun t28_18 =>
 M.bind (C u0r [(strip (strip a0)), (strip t28_18), (.int .i64 3)]) fun t29_19 =>
 u63 a0 a1 (.int .u8 0))
 (u63 a0 a1 (.int .u8 0))) := by
 rw [C, u03 _ _ rfl]; kernel_rfl
theorem uch (a0 a1 a2 : PV) : C u0r [a0, a1, a2] =
 trunc (M.bind (nc P (strip a0)) fun t7_0 =>
 M.bind (fa 20 t7_0) fun t8_1 =>
 M.bind (ld none false t8_1) fun t9_2 =>
 M.bind (bi .eql .none t9_2 (.int .i64 0)) fun t10_3 =>
 M.bind (gd (strip t10_3) true (M.pure (strip a2))) fun t12_4 =>
 M.bind (gd (strip t10_3) true (bi .neq .none t12_4 (.int .i64 0))) fun t13_5 =>
 M.bind (pick (strip t10_3) t13_5 (.bool false)) fun t14_6 =>
 condM t14_6
 (M.bind (nc P (strip a0)) fun t19_7 =>
 M.bind (fa 19 t19_7) fun t20_8 =>
 M.bind (st 1 true t20_8 a1) fun _ =>
 M.bind (nc P (strip a0)) fun t21_10 =>
 M.bind (fa 20 t21_10) fun t22_11 =>
 M.bind (st 1 true t22_11 a2) fun _ =>
 M.pure (.tup []))
 (M.pure (.tup []))) := by
 rw [C, u03 _ _ rfl]; kernel_rfl
theorem uc6 (a0 a1 a2 : PV) : C u2w [a0, a1, a2] =
 trunc (M.bind (nc P (strip a0)) fun t10_0 =>
 M.bind (fa 1 t10_0) fun t11_1 =>
 M.bind (ld none true t11_1) fun t12_2 =>
 M.bind (C u0t [(strip (strip a0))]) fun t14_3 =>
 M.bind (nc P (strip a0)) fun t16_4 =>
 M.bind (fa 20 t16_4) fun t17_5 =>
 M.bind (ld none false t17_5) fun t18_6 =>
 M.bind (bi .eql .none t18_6 (.int .i64 0)) fun t19_7 =>
 M.bind (gd (strip t19_7) true (M.pure (strip t14_3))) fun t21_8 =>
 M.bind (gd (strip t19_7) true (M.pure (strip a1))) fun t22_9 =>
 M.bind (gd (strip t19_7) true (bi .gtr .none t21_8 t22_9)) fun t23_10 =>
 M.bind (pick (strip t19_7) t23_10 (.bool false)) fun t24_11 =>
 condM t24_11
 (M.bind (C u0r [(strip (strip a0)), (strip (strip t12_2)), (strip (strip a2))]) fun t28_12 =>
 M.pure (.int .u32 0))
 (resT t14_3 (M.pure t14_3))) := by
 rw [C, u03 _ _ rfl]; kernel_rfl
theorem u8g (a0 : PV) : C u33 [a0] =
 trunc (M.bind (al [(.int .i64 0), (.int .i64 0), (.bool false), (.int .i64 0)]) fun t2_0 =>
 M.bind (nc P (strip a0)) fun t7_1 =>
 M.bind (fa 3 t7_1) fun t8_2 =>
 M.bind (ld none false t8_2) fun t9_3 =>
 M.bind (bi .neq .none t9_3 (.int .i64 0)) fun t10_4 =>
 condM t10_4
 (M.bind (bd [(.int .i64 0), (.int .i64 0), (.bool false), (.int .i64 0)] []) fun t11_5 =>
 M.bind (st 4 true t2_0 t11_5) fun _ =>
 M.bind (ld (some 4) true t2_0) fun t0_7 => guardM (!isTup t0_7) (M.pure t0_7))
 (chk
 (M.bind (noPan (M.pure (strip a0))) fun t13_25 =>
 M.bind (noPan (nc P t13_25)) fun t14_26 =>
 M.bind (noPan (fa 0 t14_26)) fun t15_27 =>
 M.bind (noPan (M.pure (strip a0))) fun t17_28 =>
 M.bind (noPan (nc P t17_28)) fun t18_29 =>
 M.bind (noPan (fa 1 t18_29)) fun t19_30 =>
 M.bind (noPan (ld none false t15_27)) fun t16_31 =>
 M.bind (noPan (ld none false t19_30)) fun t20_32 =>
 M.bind (noPan (al [(.int .i64 0), (.int .i64 0), (.bool false), (.int .i64 0)])) fun t3_33 =>
 M.bind (noPan (C u0j [(strip t16_31), (strip t20_32)])) fun t21_34 =>
 M.bind (noPan (M.pure (strip t21_34))) fun t12_35 =>
 M.bind (noPan (ex 0 t12_35)) fun t22_36 =>
 M.bind (noPan (ex 1 (tupDrop 0 t12_35))) fun t23_37 =>
 M.bind (noPan (ex 2 (tupDrop 1 (tupDrop 0 t12_35)))) fun t24_38 =>
 M.bind (noPan (st 4 true t3_33 t22_36)) fun _ =>
 M.bind (noPan (M.pure t23_37)) fun t4_40 =>
 M.bind (noPan (M.pure t24_38)) fun t5_41 =>
 M.pure [a0, .undef, t2_0, t3_33, t4_40, t5_41, (strip a0), t7_1, t8_2, t9_3, t10_4, .undef, (tupDrop 2 (tupDrop 1 (tupDrop 0 t12_35))), t13_25, t14_26, t15_27, t16_31, t17_28, t18_29, t19_30, t20_32, t21_34, (strip t22_36), (strip t23_37), (strip t24_38), .undef, .undef, .undef, .undef, .undef, .undef, .undef, .undef, .undef, .undef, .undef, .undef])
 (M.bind (noPan (M.pure (strip a0))) fun t13_8 =>
 M.bind (noPan (nc P t13_8)) fun t14_9 =>
 M.bind (noPan (fa 0 t14_9)) fun t15_10 =>
 M.bind (noPan (M.pure (strip a0))) fun t17_11 =>
 M.bind (noPan (nc P t17_11)) fun t18_12 =>
 M.bind (noPan (fa 1 t18_12)) fun t19_13 =>
 M.bind (noPan (ld none false t15_10)) fun t16_14 =>
 M.bind (noPan (ld none false t19_13)) fun t20_15 =>
 M.bind (noPan (C u0j [(strip t16_14), (strip t20_15)])) fun t21_16 =>
 M.bind (noPan (M.pure (strip t21_16))) fun t12_17 =>
 M.bind (noPan (ex 0 t12_17)) fun t22_18 =>
 M.bind (noPan (ex 1 (tupDrop 0 t12_17))) fun t23_19 =>
 M.bind (noPan (ex 2 (tupDrop 1 (tupDrop 0 t12_17)))) fun t24_20 =>
 M.bind (noPan (al [(.int .i64 0), (.int .i64 0), (.bool false), (.int .i64 0)])) fun t3_21 =>
 M.bind (noPan (st 4 true t3_21 t22_18)) fun _ =>
 M.bind (noPan (M.pure t23_19)) fun t4_23 =>
 M.bind (noPan (M.pure t24_20)) fun t5_24 =>
 M.pure [a0, .undef, t2_0, t3_21, t4_23, t5_24, (strip a0), t7_1, t8_2, t9_3, t10_4, .undef, (tupDrop 2 (tupDrop 1 (tupDrop 0 t12_17))), t13_8, t14_9, t15_10, t16_14, t17_11, t18_12, t19_13, t20_15, t21_16, (strip t22_18), (strip t23_19), (strip t24_20), .undef, .undef, .undef, .undef, .undef, .undef, .undef, .undef, .undef, .undef, .undef, .undef]) <|
 chk
 (M.bind (noPan (M.pure (strip a0))) fun t13_42 =>
 M.bind (noPan (nc P t13_42)) fun t14_43 =>
 M.bind (noPan (fa 0 t14_43)) fun t15_44 =>
 M.bind (noPan (M.pure (strip a0))) fun t17_45 =>
 M.bind (noPan (nc P t17_45)) fun t18_46 =>
 M.bind (noPan (fa 1 t18_46)) fun t19_47 =>
 M.bind (noPan (ld none false t15_44)) fun t16_48 =>
 M.bind (noPan (al [(.int .i64 0), (.int .i64 0), (.bool false), (.int .i64 0)])) fun t3_49 =>
 M.bind (noPan (ld none false t19_47)) fun t20_50 =>
 M.bind (noPan (C u0j [(strip t16_48), (strip t20_50)])) fun t21_51 =>
 M.bind (noPan (M.pure (strip t21_51))) fun t12_52 =>
 M.bind (noPan (ex 0 t12_52)) fun t22_53 =>
 M.bind (noPan (ex 1 (tupDrop 0 t12_52))) fun t23_54 =>
 M.bind (noPan (ex 2 (tupDrop 1 (tupDrop 0 t12_52)))) fun t24_55 =>
 M.bind (noPan (st 4 true t3_49 t22_53)) fun _ =>
 M.bind (noPan (M.pure t23_54)) fun t4_57 =>
 M.bind (noPan (M.pure t24_55)) fun t5_58 =>
 M.pure [a0, .undef, t2_0, t3_49, t4_57, t5_58, (strip a0), t7_1, t8_2, t9_3, t10_4, .undef, (tupDrop 2 (tupDrop 1 (tupDrop 0 t12_52))), t13_42, t14_43, t15_44, t16_48, t17_45, t18_46, t19_47, t20_50, t21_51, (strip t22_53), (strip t23_54), (strip t24_55), .undef, .undef, .undef, .undef, .undef, .undef, .undef, .undef, .undef, .undef, .undef, .undef])
 (M.bind (noPan (M.pure (strip a0))) fun t13_8 =>
 M.bind (noPan (nc P t13_8)) fun t14_9 =>
 M.bind (noPan (fa 0 t14_9)) fun t15_10 =>
 M.bind (noPan (M.pure (strip a0))) fun t17_11 =>
 M.bind (noPan (nc P t17_11)) fun t18_12 =>
 M.bind (noPan (fa 1 t18_12)) fun t19_13 =>
 M.bind (noPan (ld none false t15_10)) fun t16_14 =>
 M.bind (noPan (ld none false t19_13)) fun t20_15 =>
 M.bind (noPan (C u0j [(strip t16_14), (strip t20_15)])) fun t21_16 =>
 M.bind (noPan (M.pure (strip t21_16))) fun t12_17 =>
 M.bind (noPan (ex 0 t12_17)) fun t22_18 =>
 M.bind (noPan (ex 1 (tupDrop 0 t12_17))) fun t23_19 =>
 M.bind (noPan (ex 2 (tupDrop 1 (tupDrop 0 t12_17)))) fun t24_20 =>
 M.bind (noPan (al [(.int .i64 0), (.int .i64 0), (.bool false), (.int .i64 0)])) fun t3_21 =>
 M.bind (noPan (st 4 true t3_21 t22_18)) fun _ =>
 M.bind (noPan (M.pure t23_19)) fun t4_23 =>
 M.bind (noPan (M.pure t24_20)) fun t5_24 =>
 M.pure [a0, .undef, t2_0, t3_21, t4_23, t5_24, (strip a0), t7_1, t8_2, t9_3, t10_4, .undef, (tupDrop 2 (tupDrop 1 (tupDrop 0 t12_17))), t13_8, t14_9, t15_10, t16_14, t17_11, t18_12, t19_13, t20_15, t21_16, (strip t22_18), (strip t23_19), (strip t24_20), .undef, .undef, .undef, .undef, .undef, .undef, .undef, .undef, .undef, .undef, .undef, .undef]) <|
 chk
 (M.bind (noPan (M.pure (strip a0))) fun t13_59 =>
 M.bind (noPan (nc P t13_59)) fun t14_60 =>
 M.bind (noPan (fa 0 t14_60)) fun t15_61 =>
 M.bind (noPan (M.pure (strip a0))) fun t17_62 =>
 M.bind (noPan (nc P t17_62)) fun t18_63 =>
 M.bind (noPan (fa 1 t18_63)) fun t19_64 =>
 M.bind (noPan (ld none false t19_64)) fun t20_65 =>
 M.bind (noPan (al [(.int .i64 0), (.int .i64 0), (.bool false), (.int .i64 0)])) fun t3_66 =>
 M.bind (noPan (ld none false t15_61)) fun t16_67 =>
 M.bind (noPan (C u0j [(strip t16_67), (strip t20_65)])) fun t21_68 =>
 M.bind (noPan (M.pure (strip t21_68))) fun t12_69 =>
 M.bind (noPan (ex 0 t12_69)) fun t22_70 =>
 M.bind (noPan (ex 1 (tupDrop 0 t12_69))) fun t23_71 =>
 M.bind (noPan (ex 2 (tupDrop 1 (tupDrop 0 t12_69)))) fun t24_72 =>
 M.bind (noPan (st 4 true t3_66 t22_70)) fun _ =>
 M.bind (noPan (M.pure t23_71)) fun t4_74 =>
 M.bind (noPan (M.pure t24_72)) fun t5_75 =>
 M.pure [a0, .undef, t2_0, t3_66, t4_74, t5_75, (strip a0), t7_1, t8_2, t9_3, t10_4, .undef, (tupDrop 2 (tupDrop 1 (tupDrop 0 t12_69))), t13_59, t14_60, t15_61, t16_67, t17_62, t18_63, t19_64, t20_65, t21_68, (strip t22_70), (strip t23_71), (strip t24_72), .undef, .undef, .undef, .undef, .undef, .undef, .undef, .undef, .undef, .undef, .undef, .undef])
 (M.bind (noPan (M.pure (strip a0))) fun t13_8 =>
 M.bind (noPan (nc P t13_8)) fun t14_9 =>
 M.bind (noPan (fa 0 t14_9)) fun t15_10 =>
 M.bind (noPan (M.pure (strip a0))) fun t17_11 =>
 M.bind (noPan (nc P t17_11)) fun t18_12 =>
 M.bind (noPan (fa 1 t18_12)) fun t19_13 =>
 M.bind (noPan (ld none false t15_10)) fun t16_14 =>
 M.bind (noPan (ld none false t19_13)) fun t20_15 =>
 M.bind (noPan (C u0j [(strip t16_14), (strip t20_15)])) fun t21_16 =>
 M.bind (noPan (M.pure (strip t21_16))) fun t12_17 =>
 M.bind (noPan (ex 0 t12_17)) fun t22_18 =>
 M.bind (noPan (ex 1 (tupDrop 0 t12_17))) fun t23_19 =>
 M.bind (noPan (ex 2 (tupDrop 1 (tupDrop 0 t12_17)))) fun t24_20 =>
 M.bind (noPan (al [(.int .i64 0), (.int .i64 0), (.bool false), (.int .i64 0)])) fun t3_21 =>
 M.bind (noPan (st 4 true t3_21 t22_18)) fun _ =>
 M.bind (noPan (M.pure t23_19)) fun t4_23 =>
 M.bind (noPan (M.pure t24_20)) fun t5_24 =>
 M.pure [a0, .undef, t2_0, t3_21, t4_23, t5_24, (strip a0), t7_1, t8_2, t9_3, t10_4, .undef, (tupDrop 2 (tupDrop 1 (tupDrop 0 t12_17))), t13_8, t14_9, t15_10, t16_14, t17_11, t18_12, t19_13, t20_15, t21_16, (strip t22_18), (strip t23_19), (strip t24_20), .undef, .undef, .undef, .undef, .undef, .undef, .undef, .undef, .undef, .undef, .undef, .undef]) <|
 chk
 (M.bind (noPan (M.pure (strip a0))) fun t13_76 =>
 M.bind (noPan (nc P t13_76)) fun t14_77 =>
 M.bind (noPan (fa 0 t14_77)) fun t15_78 =>
 M.bind (noPan (M.pure (strip a0))) fun t17_79 =>
 M.bind (noPan (nc P t17_79)) fun t18_80 =>
 M.bind (noPan (fa 1 t18_80)) fun t19_81 =>
 M.bind (noPan (al [(.int .i64 0), (.int .i64 0), (.bool false), (.int .i64 0)])) fun t3_82 =>
 M.bind (noPan (ld none false t15_78)) fun t16_83 =>
 M.bind (noPan (ld none false t19_81)) fun t20_84 =>
 M.bind (noPan (C u0j [(strip t16_83), (strip t20_84)])) fun t21_85 =>
 M.bind (noPan (M.pure (strip t21_85))) fun t12_86 =>
 M.bind (noPan (ex 0 t12_86)) fun t22_87 =>
 M.bind (noPan (ex 1 (tupDrop 0 t12_86))) fun t23_88 =>
 M.bind (noPan (ex 2 (tupDrop 1 (tupDrop 0 t12_86)))) fun t24_89 =>
 M.bind (noPan (st 4 true t3_82 t22_87)) fun _ =>
 M.bind (noPan (M.pure t23_88)) fun t4_91 =>
 M.bind (noPan (M.pure t24_89)) fun t5_92 =>
 M.pure [a0, .undef, t2_0, t3_82, t4_91, t5_92, (strip a0), t7_1, t8_2, t9_3, t10_4, .undef, (tupDrop 2 (tupDrop 1 (tupDrop 0 t12_86))), t13_76, t14_77, t15_78, t16_83, t17_79, t18_80, t19_81, t20_84, t21_85, (strip t22_87), (strip t23_88), (strip t24_89), .undef, .undef, .undef, .undef, .undef, .undef, .undef, .undef, .undef, .undef, .undef, .undef])
 (M.bind (noPan (M.pure (strip a0))) fun t13_8 =>
 M.bind (noPan (nc P t13_8)) fun t14_9 =>
 M.bind (noPan (fa 0 t14_9)) fun t15_10 =>
 M.bind (noPan (M.pure (strip a0))) fun t17_11 =>
 M.bind (noPan (nc P t17_11)) fun t18_12 =>
 M.bind (noPan (fa 1 t18_12)) fun t19_13 =>
 M.bind (noPan (ld none false t15_10)) fun t16_14 =>
 M.bind (noPan (ld none false t19_13)) fun t20_15 =>
 M.bind (noPan (C u0j [(strip t16_14), (strip t20_15)])) fun t21_16 =>
 M.bind (noPan (M.pure (strip t21_16))) fun t12_17 =>
 M.bind (noPan (ex 0 t12_17)) fun t22_18 =>
 M.bind (noPan (ex 1 (tupDrop 0 t12_17))) fun t23_19 =>
 M.bind (noPan (ex 2 (tupDrop 1 (tupDrop 0 t12_17)))) fun t24_20 =>
 M.bind (noPan (al [(.int .i64 0), (.int .i64 0), (.bool false), (.int .i64 0)])) fun t3_21 =>
 M.bind (noPan (st 4 true t3_21 t22_18)) fun _ =>
 M.bind (noPan (M.pure t23_19)) fun t4_23 =>
 M.bind (noPan (M.pure t24_20)) fun t5_24 =>
 M.pure [a0, .undef, t2_0, t3_21, t4_23, t5_24, (strip a0), t7_1, t8_2, t9_3, t10_4, .undef, (tupDrop 2 (tupDrop 1 (tupDrop 0 t12_17))), t13_8, t14_9, t15_10, t16_14, t17_11, t18_12, t19_13, t20_15, t21_16, (strip t22_18), (strip t23_19), (strip t24_20), .undef, .undef, .undef, .undef, .undef, .undef, .undef, .undef, .undef, .undef, .undef, .undef]) <|
 M.bind (noPan (M.pure (strip a0))) fun t13_93 =>
 M.bind (noPan (nc P t13_93)) fun t14_94 =>
 M.bind (noPan (fa 0 t14_94)) fun t15_95 =>
 M.bind (noPan (M.pure (strip a0))) fun t17_96 =>
 M.bind (noPan (nc P t17_96)) fun t18_97 =>
 M.bind (noPan (fa 1 t18_97)) fun t19_98 =>
 M.bind (noPan (ld none false t15_95)) fun t16_99 =>
 M.bind (noPan (ld none false t19_98)) fun t20_100 =>
 M.bind (noPan (C u0j [(strip t16_99), (strip t20_100)])) fun t21_101 =>
 M.bind (noPan (M.pure (strip t21_101))) fun t12_102 =>
 M.bind (noPan (ex 0 t12_102)) fun t22_103 =>
 M.bind (noPan (ex 1 (tupDrop 0 t12_102))) fun t23_104 =>
 M.bind (noPan (ex 2 (tupDrop 1 (tupDrop 0 t12_102)))) fun t24_105 =>
 M.bind (noPan (al [(.int .i64 0), (.int .i64 0), (.bool false), (.int .i64 0)])) fun t3_106 =>
 M.bind (noPan (st 4 true t3_106 t22_103)) fun _ =>
 M.bind (noPan (M.pure t23_104)) fun t4_108 =>
 M.bind (noPan (M.pure t24_105)) fun t5_109 =>
 M.bind (bi .neq .none (strip t5_109) (.int .i64 0)) fun t26_110 =>
 condM t26_110
 (M.bind (C u0d [(strip (strip a0)), (strip (strip t4_108)), (strip (strip t5_109))]) fun t30_111 =>
 M.bind (bd [(.int .i64 0), (.int .i64 0), (.bool false), (.int .i64 0)] []) fun t31_112 =>
 M.bind (st 4 true t2_0 t31_112) fun _ =>
 M.bind (ld (some 4) true t2_0) fun t0_114 => guardM (!isTup t0_114) (M.pure t0_114))
 (M.bind (nc P (strip a0)) fun t34_115 =>
 M.bind (fa 1 t34_115) fun t35_116 =>
 M.bind (st 1 true t35_116 t4_108) fun _ =>
 M.bind (ld (some 4) true t3_106) fun t36_118 =>
 M.bind (st 4 true t2_0 t36_118) fun _ =>
 M.bind (ld (some 4) true t2_0) fun t0_120 => guardM (!isTup t0_120) (M.pure t0_120)))) := by
 rw [C, u03 _ _ rfl]; kernel_rfl
noncomputable def u12 (v0 v2 v3 v4 v5 : PV) : M PV := atP P X u1u [1, 1, 1, 0, 1, 0] (mkEnv 39 0 [(0, v0), (2, v2), (3, v3), (4, v4), (5, v5)])
noncomputable def u1x (v0 v2 v3 v4 v5 v6 : PV) : M PV := atP P X u1u [1, 1, 1, 0, 1, 0, 0, 1, 0, 0, 1, 1] (mkEnv 39 0 [(0, v0), (2, v2), (3, v3), (4, v4), (5, v5), (6, v6)])
theorem u27 (v0 v2 v3 v4 v5 : PV) : u12 v0 v2 v3 v4 v5 =
 M.bind (bi .lss .none (strip v5) (strip v3)) fun t11_0 =>
 M.bind (gd (strip t11_0) true (M.pure (strip v0))) fun t13_1 =>
 M.bind (gd (strip t11_0) true (nc P t13_1)) fun t14_2 =>
 M.bind (gd (strip t11_0) true (fa 3 t14_2)) fun t15_3 =>
 M.bind (gd (strip t11_0) true (ld none false t15_3)) fun t16_4 =>
 M.bind (gd (strip t11_0) true (bi .eql .none t16_4 (.int .i64 0))) fun t17_5 =>
 M.bind (pick (strip t11_0) t17_5 (.bool false)) fun t18_6 =>
 condM t18_6
 (M.bind (C u24 [(strip (strip v0)), (.int .u8 3)]) fun t22_7 =>
 M.bind (cv (.int .i64) true t22_7) fun t23_8 =>
 M.bind (bd [(.int .i64 0), (.int .u32 0), (.int .u32 0)] [(0, 1, t23_8)]) fun t24_9 =>
 M.bind (al [(.int .i64 0), (.int .u32 0), (.int .u32 0)]) fun t6_10 =>
 M.bind (st 3 true t6_10 t24_9) fun _ =>
 M.bind (fa 0 t6_10) fun t25_12 =>
 M.bind (ld none false t25_12) fun t26_13 =>
 M.bind (bi .lss .none t26_13 (.int .i64 2)) fun t27_14 =>
 condM t27_14
 (M.bind (C u0b [(strip (strip v0))]) fun t29_15 =>
 M.bind (fa 1 t6_10) fun t30_16 =>
 M.bind (st 1 true t30_16 t29_15) fun _ =>
 u1x v0 v2 v3 v4 v5 t6_10)
 (u1x v0 v2 v3 v4 v5 t6_10))
 (resT v4 (M.pure v4)) :=
 (u0k P X _ _ _).trans (by kernel_rfl)
theorem u2u (v0 v2 v3 v4 v5 v6 : PV) : u1x v0 v2 v3 v4 v5 v6 =
 M.bind (C u0b [(strip (strip v0))]) fun t32_0 =>
 M.bind (fa 2 v6) fun t33_1 =>
 M.bind (st 1 true t33_1 t32_0) fun _ =>
 M.bind (ld (some 3) false v6) fun t35_3 =>
 M.bind (bs true (some 3) [t35_3]) fun t36_4 =>
 M.bind (ap true 3 16 v4 t36_4) fun t37_5 =>
 M.bind (bi .add .none (strip v5) (.int .i64 1)) fun t20_6 =>
 u12 v0 v2 v3 t37_5 t20_6 :=
 (u0k P X _ _ _).trans (by kernel_rfl)
theorem u83 (a0 : PV) : C u1u [a0] =
 trunc (M.bind (C u2i [(strip (strip a0)), (.int .i64 65536)]) fun t8_0 =>
 u12 a0 (.slice false true 0 []) t8_0 (.slice false true 0 []) (.int .i64 0)) := by
 rw [C, u03 _ _ rfl]; kernel_rfl
theorem u98 (a0 : PV) : C u0b [a0] =
 trunc (M.bind (nc P (strip a0)) fun t7_0 =>
 M.bind (fa 3 t7_0) fun t8_1 =>
 M.bind (ld none false t8_1) fun t9_2 =>
 M.bind (bi .neq .none t9_2 (.int .i64 0)) fun t10_3 =>
 condM t10_3
 (M.pure (.int .u32 0))
 (M.bind (noPan (M.pure (strip a0))) fun t12_25 =>
 M.bind (noPan (nc P t12_25)) fun t13_26 =>
 M.bind (noPan (fa 0 t13_26)) fun t14_27 =>
 M.bind (noPan (M.pure (strip a0))) fun t16_28 =>
 M.bind (noPan (nc P t16_28)) fun t17_29 =>
 M.bind (noPan (fa 1 t17_29)) fun t18_30 =>
 M.bind (noPan (M.pure (strip a0))) fun t20_31 =>
 M.bind (noPan (nc P t20_31)) fun t21_32 =>
 M.bind (noPan (fa 0 t21_32)) fun t22_33 =>
 M.bind (noPan (ld none false t14_27)) fun t15_34 =>
 M.bind (noPan (ld none false t18_30)) fun t19_35 =>
 M.bind (noPan (ld none false t22_33)) fun t23_36 =>
 M.bind (noPan (lnL t23_36)) fun t24_37 =>
 M.bind (noPan (C u0e [(strip t15_34), (strip t19_35), (strip t24_37), (.int .i64 32), (.bool false)])) fun t25_38 =>
 M.bind (noPan (M.pure (strip t25_38))) fun t11_39 =>
 M.bind (noPan (ex 0 t11_39)) fun t26_40 =>
 M.bind (noPan (ex 1 (tupDrop 0 t11_39))) fun t27_41 =>
 M.bind (noPan (ex 2 (tupDrop 1 (tupDrop 0 t11_39)))) fun t28_42 =>
 M.bind (noPan (M.pure t26_40)) fun t3_43 =>
 M.bind (noPan (M.pure t27_41)) fun t4_44 =>
 M.bind (noPan (M.pure t28_42)) fun t5_45 =>
 M.bind (bi .neq .none (strip t5_45) (.int .i64 0)) fun t30_46 =>
 condM t30_46
 (M.bind (C u0d [(strip (strip a0)), (strip (strip t4_44)), (strip (strip t5_45))]) fun t34_47 =>
 M.pure (.int .u32 0))
 (M.bind (nc P (strip a0)) fun t37_48 =>
 M.bind (fa 1 t37_48) fun t38_49 =>
 M.bind (st 1 true t38_49 t4_44) fun _ =>
 M.bind (cv (.int .u32) true (strip t3_43)) fun t40_51 =>
 resT t40_51 (M.pure t40_51)))) := by
 rw [C, u03 _ _ rfl]; kernel_rfl
theorem u95 (a0 a1 : PV) : C u2i [a0, a1] =
 trunc (M.bind (nc P (strip a0)) fun t8_0 =>
 M.bind (fa 1 t8_0) fun t9_1 =>
 M.bind (ld none true t9_1) fun t10_2 =>
 M.bind (C u0b [(strip (strip a0))]) fun t12_3 =>
 M.bind (nc P (strip a0)) fun t14_4 =>
 M.bind (fa 3 t14_4) fun t15_5 =>
 M.bind (ld none false t15_5) fun t16_6 =>
 M.bind (bi .eql .none t16_6 (.int .i64 0)) fun t17_7 =>
 M.bind (gd (strip t17_7) true (M.pure (strip t12_3))) fun t19_8 =>
 M.bind (gd (strip t17_7) true (cv (.int .i64) true t19_8)) fun t20_9 =>
 M.bind (gd (strip t17_7) true (M.pure (strip a1))) fun t21_10 =>
 M.bind (gd (strip t17_7) true (bi .gtr .none t20_9 t21_10)) fun t22_11 =>
 M.bind (pick (strip t17_7) t22_11 (.bool false)) fun t23_12 =>
 condM t23_12
 (M.bind (C u0d [(strip (strip a0)), (strip (strip t10_2)), (.int .i64 2)]) fun t26_13 =>
 M.pure (.int .i64 0))
 (M.bind (cv (.int .i64) true (strip t12_3)) fun t28_14 =>
 resT t28_14 (M.pure t28_14))) := by
 rw [C, u03 _ _ rfl]; kernel_rfl
theorem u90 (a0 : PV) : C u2m [a0] =
 trunc (M.bind (al [(.int .i64 0), (.bool false), (.int .i64 0)]) fun t2_0 =>
 M.bind (nc P (strip a0)) fun t7_1 =>
 M.bind (fa 3 t7_1) fun t8_2 =>
 M.bind (ld none false t8_2) fun t9_3 =>
 M.bind (bi .neq .none t9_3 (.int .i64 0)) fun t10_4 =>
 condM t10_4
 (M.bind (bd [(.int .i64 0), (.bool false), (.int .i64 0)] []) fun t11_5 =>
 M.bind (st 3 true t2_0 t11_5) fun _ =>
 M.bind (ld (some 3) true t2_0) fun t0_7 => guardM (!isTup t0_7) (M.pure t0_7))
 (chk
 (M.bind (noPan (M.pure (strip a0))) fun t13_25 =>
 M.bind (noPan (nc P t13_25)) fun t14_26 =>
 M.bind (noPan (fa 0 t14_26)) fun t15_27 =>
 M.bind (noPan (M.pure (strip a0))) fun t17_28 =>
 M.bind (noPan (nc P t17_28)) fun t18_29 =>
 M.bind (noPan (fa 1 t18_29)) fun t19_30 =>
 M.bind (noPan (ld none false t15_27)) fun t16_31 =>
 M.bind (noPan (ld none false t19_30)) fun t20_32 =>
 M.bind (noPan (al [(.int .i64 0), (.bool false), (.int .i64 0)])) fun t3_33 =>
 M.bind (noPan (C u0p [(strip t16_31), (strip t20_32)])) fun t21_34 =>
 M.bind (noPan (M.pure (strip t21_34))) fun t12_35 =>
 M.bind (noPan (ex 0 t12_35)) fun t22_36 =>
 M.bind (noPan (ex 1 (tupDrop 0 t12_35))) fun t23_37 =>
 M.bind (noPan (ex 2 (tupDrop 1 (tupDrop 0 t12_35)))) fun t24_38 =>
 M.bind (noPan (st 3 true t3_33 t22_36)) fun _ =>
 M.bind (noPan (M.pure t23_37)) fun t4_40 =>
 M.bind (noPan (M.pure t24_38)) fun t5_41 =>
 M.pure [a0, .undef, t2_0, t3_33, t4_40, t5_41, (strip a0), t7_1, t8_2, t9_3, t10_4, .undef, (tupDrop 2 (tupDrop 1 (tupDrop 0 t12_35))), t13_25, t14_26, t15_27, t16_31, t17_28, t18_29, t19_30, t20_32, t21_34, (strip t22_36), (strip t23_37), (strip t24_38), .undef, .undef, .undef, .undef, .undef, .undef, .undef, .undef, .undef, .undef, .undef, .undef])
 (M.bind (noPan (M.pure (strip a0))) fun t13_8 =>
 M.bind (noPan (nc P t13_8)) fun t14_9 =>
 M.bind (noPan (fa 0 t14_9)) fun t15_10 =>
 M.bind (noPan (M.pure (strip a0))) fun t17_11 =>
 M.bind (noPan (nc P t17_11)) fun t18_12 =>
 M.bind (noPan (fa 1 t18_12)) fun t19_13 =>
 M.bind (noPan (ld none false t15_10)) fun t16_14 =>
 M.bind (noPan (ld none false t19_13)) fun t20_15 =>
 M.bind (noPan (C u0p [(strip t16_14), (strip t20_15)])) fun t21_16 =>
 M.bind (noPan (M.pure (strip t21_16))) fun t12_17 =>
 M.bind (noPan (ex 0 t12_17)) fun t22_18 =>
 M.bind (noPan (ex 1 (tupDrop 0 t12_17))) fun t23_19 =>
 M.bind (noPan (ex 2 (tupDrop 1 (tupDrop 0 t12_17)))) fun t24_20 =>
 M.bind (noPan (al [(.int .i64 0), (.bool false), (.int .i64 0)])) fun t3_21 =>
 M.bind (noPan (st 3 true t3_21 t22_18)) fun _ =>
 M.bind (noPan (M.pure t23_19)) fun t4_23 =>
 M.bind (noPan (M.pure t24_20)) fun t5_24 =>
 M.pure [a0, .undef, t2_0, t3_21, t4_23, t5_24, (strip a0), t7_1, t8_2, t9_3, t10_4, .undef, (tupDrop 2 (tupDrop 1 (tupDrop 0 t12_17))), t13_8, t14_9, t15_10, t16_14, t17_11, t18_12, t19_13, t20_15, t21_16, (strip t22_18), (strip t23_19), (strip t24_20), .undef, .undef, .undef, .undef, .undef, .undef, .undef, .undef, .undef, .undef, .undef, .undef]) <|
 chk
 (M.bind (noPan (M.pure (strip a0))) fun t13_42 =>
 M.bind (noPan (nc P t13_42)) fun t14_43 =>
 M.bind (noPan (fa 0 t14_43)) fun t15_44 =>
 M.bind (noPan (M.pure (strip a0))) fun t17_45 =>
 M.bind (noPan (nc P t17_45)) fun t18_46 =>
 M.bind (noPan (fa 1 t18_46)) fun t19_47 =>
 M.bind (noPan (ld none false t15_44)) fun t16_48 =>
 M.bind (noPan (al [(.int .i64 0), (.bool false), (.int .i64 0)])) fun t3_49 =>
 M.bind (noPan (ld none false t19_47)) fun t20_50 =>
 M.bind (noPan (C u0p [(strip t16_48), (strip t20_50)])) fun t21_51 =>
 M.bind (noPan (M.pure (strip t21_51))) fun t12_52 =>
 M.bind (noPan (ex 0 t12_52)) fun t22_53 =>
 M.bind (noPan (ex 1 (tupDrop 0 t12_52))) fun t23_54 =>
 M.bind (noPan (ex 2 (tupDrop 1 (tupDrop 0 t12_52)))) fun t24_55 =>
 M.bind (noPan (st 3 true t3_49 t22_53)) fun _ =>
 M.bind (noPan (M.pure t23_54)) fun t4_57 =>
 M.bind (noPan (M.pure t24_55)) fun t5_58 =>
 M.pure [a0, .undef, t2_0, t3_49, t4_57, t5_58, (strip a0), t7_1, t8_2, t9_3, t10_4, .undef, (tupDrop 2 (tupDrop 1 (tupDrop 0 t12_52))), t13_42, t14_43, t15_44, t16_48, t17_45, t18_46, t19_47, t20_50, t21_51, (strip t22_53), (strip t23_54), (strip t24_55), .undef, .undef, .undef, .undef, .undef, .undef, .undef, .undef, .undef, .undef, .undef, .undef])
 (M.bind (noPan (M.pure (strip a0))) fun t13_8 =>
 M.bind (noPan (nc P t13_8)) fun t14_9 =>
 M.bind (noPan (fa 0 t14_9)) fun t15_10 =>
 M.bind (noPan (M.pure (strip a0))) fun t17_11 =>
 M.bind (noPan (nc P t17_11)) fun t18_12 =>
 M.bind (noPan (fa 1 t18_12)) fun t19_13 =>
 M.bind (noPan (ld none false t15_10)) fun t16_14 =>
 M.bind (noPan (ld none false t19_13)) fun t20_15 =>
 M.bind (noPan (C u0p [(strip t16_14), (strip t20_15)])) fun t21_16 =>
 M.bind (noPan (M.pure (strip t21_16))) fun t12_17 =>
 M.bind (noPan (ex 0 t12_17)) fun t22_18 =>
 M.bind (noPan (ex 1 (tupDrop 0 t12_17))) fun t23_19 =>
 M.bind (noPan (ex 2 (tupDrop 1 (tupDrop 0 t12_17)))) fun t24_20 =>
 M.bind (noPan (al [(.int .i64 0), (.bool false), (.int .i64 0)])) fun t3_21 =>
 M.bind (noPan (st 3 true t3_21 t22_18)) fun _ =>
 M.bind (noPan (M.pure t23_19)) fun t4_23 =>
 M.bind (noPan (M.pure t24_20)) fun t5_24 =>
 M.pure [a0, .undef, t2_0, t3_21, t4_23, t5_24, (strip a0), t7_1, t8_2, t9_3, t10_4, .undef, (tupDrop 2 (tupDrop 1 (tupDrop 0 t12_17))), t13_8, t14_9, t15_10, t16_14, t17_11, t18_12, t19_13, t20_15, t21_16, (strip t22_18), (strip t23_19), (strip t24_20), .undef, .undef, .undef, .undef, .undef, .undef, .undef, .undef, .undef, .undef, .undef, .undef]) <|
 chk
 (M.bind (noPan (M.pure (strip a0))) fun t13_59 =>
 M.bind (noPan (nc P t13_59)) fun t14_60 =>
 M.bind (noPan (fa 0 t14_60)) fun t15_61 =>
 M.bind (noPan (M.pure (strip a0))) fun t17_62 =>
 M.bind (noPan (nc P t17_62)) fun t18_63 =>
 M.bind (noPan (fa 1 t18_63)) fun t19_64 =>
 M.bind (noPan (ld none false t19_64)) fun t20_65 =>
 M.bind (noPan (al [(.int .i64 0), (.bool false), (.int .i64 0)])) fun t3_66 =>
 M.bind (noPan (ld none false t15_61)) fun t16_67 =>
 M.bind (noPan (C u0p [(strip t16_67), (strip t20_65)])) fun t21_68 =>
 M.bind (noPan (M.pure (strip t21_68))) fun t12_69 =>
 M.bind (noPan (ex 0 t12_69)) fun t22_70 =>
 M.bind (noPan (ex 1 (tupDrop 0 t12_69))) fun t23_71 =>
 M.bind (noPan (ex 2 (tupDrop 1 (tupDrop 0 t12_69)))) fun t24_72 =>
 M.bind (noPan (st 3 true t3_66 t22_70)) fun _ =>
 M.bind (noPan (M.pure t23_71)) fun t4_74 =>
 M.bind (noPan (M.pure t24_72)) fun t5_75 =>
 M.pure [a0, .undef, t2_0, t3_66, t4_74, t5_75, (strip a0), t7_1, t8_2, t9_3, t10_4, .undef, (tupDrop 2 (tupDrop 1 (tupDrop 0 t12_69))), t13_59, t14_60, t15_61, t16_67, t17_62, t18_63, t19_64, t20_65, t21_68, (strip t22_70), (strip t23_71), (strip t24_72), .undef, .undef, .undef, .undef, .undef, .undef, .undef, .undef, .undef, .undef, .undef, .undef])
 (M.bind (noPan (M.pure (strip a0))) fun t13_8 =>
 M.bind (noPan (nc P t13_8)) fun t14_9 =>
 M.bind (noPan (fa 0 t14_9)) fun t15_10 =>
 M.bind (noPan (M.pure (strip a0))) fun t17_11 =>
 M.bind (noPan (nc P t17_11)) fun t18_12 =>
 M.bind (noPan (fa 1 t18_12)) fun t19_13 =>
 M.bind (noPan (ld none false t15_10)) fun t16_14 =>
 M.bind (noPan (ld none false t19_13)) fun t20_15 =>
 M.bind (noPan (C u0p [(strip t16_14), (strip t20_15)])) fun t21_16 =>
 M.bind (noPan (M.pure (strip t21_16))) fun t12_17 =>
 M.bind (noPan (ex 0 t12_17)) fun t22_18 =>
 M.bind (noPan (ex 1 (tupDrop 0 t12_17))) fun t23_19 =>
 M.bind (noPan (ex 2 (tupDrop 1 (tupDrop 0 t12_17)))) fun t24_20 =>
 M.bind (noPan (al [(.int .i64 0), (.bool false), (.int .i64 0)])) fun t3_21 =>
 M.bind (noPan (st 3 true t3_21 t22_18)) fun _ =>
 M.bind (noPan (M.pure t23_19)) fun t4_23 =>
 M.bind (noPan (M.pure t24_20)) fun t5_24 =>
 M.pure [a0, .undef, t2_0, t3_21, t4_23, t5_24, (strip a0), t7_1, t8_2, t9_3, t10_4, .undef, (tupDrop 2 (tupDrop 1 (tupDrop 0 t12_17))), t13_8, t14_9, t15_10, t16_14, t17_11, t18_12, t19_13, t20_15, t21_16, (strip t22_18), (strip t23_19), (strip t24_20), .undef, .undef, .undef, .undef, .undef, .undef, .undef, .undef, .undef, .undef, .undef, .undef]) <|
 chk
 (M.bind (noPan (M.pure (strip a0))) fun t13_76 =>
 M.bind (noPan (nc P t13_76)) fun t14_77 =>
 M.bind (noPan (fa 0 t14_77)) fun t15_78 =>
 M.bind (noPan (M.pure (strip a0))) fun t17_79 =>
 M.bind (noPan (nc P t17_79)) fun t18_80 =>
 M.bind (noPan (fa 1 t18_80)) fun t19_81 =>
 M.bind (noPan (al [(.int .i64 0), (.bool false), (.int .i64 0)])) fun t3_82 =>
 M.bind (noPan (ld none false t15_78)) fun t16_83 =>
 M.bind (noPan (ld none false t19_81)) fun t20_84 =>
 M.bind (noPan (C u0p [(strip t16_83), (strip t20_84)])) fun t21_85 =>
 M.bind (noPan (M.pure (strip t21_85))) fun t12_86 =>
 M.bind (noPan (ex 0 t12_86)) fun t22_87 =>
 M.bind (noPan (ex 1 (tupDrop 0 t12_86))) fun t23_88 =>
 M.bind (noPan (ex 2 (tupDrop 1 (tupDrop 0 t12_86)))) fun t24_89 =>
 M.bind (noPan (st 3 true t3_82 t22_87)) fun _ =>
 M.bind (noPan (M.pure t23_88)) fun t4_91 =>
 M.bind (noPan (M.pure t24_89)) fun t5_92 =>
 M.pure [a0, .undef, t2_0, t3_82, t4_91, t5_92, (strip a0), t7_1, t8_2, t9_3, t10_4, .undef, (tupDrop 2 (tupDrop 1 (tupDrop 0 t12_86))), t13_76, t14_77, t15_78, t16_83, t17_79, t18_80, t19_81, t20_84, t21_85, (strip t22_87), (strip t23_88), (strip t24_89), .undef, .undef, .undef, .undef, .undef, .undef, .undef, .undef, .undef, .undef, .undef, .undef])
 (M.bind (noPan (M.pure (strip a0))) fun t13_8 =>
 M.bind (noPan (nc P t13_8)) fun t14_9 =>
 M.bind (noPan (fa 0 t14_9)) fun t15_10 =>
 M.bind (noPan (M.pure (strip a0))) fun t17_11 =>
 M.bind (noPan (nc P t17_11)) fun t18_12 =>
 M.bind (noPan (fa 1 t18_12)) fun t19_13 =>
 M.bind (noPan (ld none false t15_10)) fun t16_14 =>
 M.bind (noPan (ld none false t19_13)) fun t20_15 =>
 M.bind (noPan (C u0p [(strip t16_14), (strip t20_15)])) fun t21_16 =>
 M.bind (noPan (M.pure (strip t21_16))) fun t12_17 =>
 M.bind (noPan (ex 0 t12_17)) fun t22_18 =>
 M.bind (noPan (ex 1 (tupDrop 0 t12_17))) fun t23_19 =>
 M.bind (noPan (ex 2 (tupDrop 1 (tupDrop 0 t12_17)))) fun t24_20 =>
 M.bind (noPan (al [(.int .i64 0), (.bool false), (.int .i64 0)])) fun t3_21 =>
 M.bind (noPan (st 3 true t3_21 t22_18)) fun _ =>
 M.bind (noPan (M.pure t23_19)) fun t4_23 =>
 M.bind (noPan (M.pure t24_20)) fun t5_24 =>
 M.pure [a0, .undef, t2_0, t3_21, t4_23, t5_24, (strip a0), t7_1, t8_2, t9_3, t10_4, .undef, (tupDrop 2 (tupDrop 1 (tupDrop 0 t12_17))), t13_8, t14_9, t15_10, t16_14, t17_11, t18_12, t19_13, t20_15, t21_16, (strip t22_18), (strip t23_19), (strip t24_20), .undef, .undef, .undef, .undef, .undef, .undef, .undef, .undef, .undef, .undef, .undef, .undef]) <|
 M.bind (noPan (M.pure (strip a0))) fun t13_93 =>
 M.bind (noPan (nc P t13_93)) fun t14_94 =>
 M.bind (noPan (fa 0 t14_94)) fun t15_95 =>
 M.bind (noPan (M.pure (strip a0))) fun t17_96 =>
 M.bind (noPan (nc P t17_96)) fun t18_97 =>
 M.bind (noPan (fa 1 t18_97)) fun t19_98 =>
 M.bind (noPan (ld none false t15_95)) fun t16_99 =>
 M.bind (noPan (ld none false t19_98)) fun t20_100 =>
 M.bind (noPan (C u0p [(strip t16_99), (strip t20_100)])) fun t21_101 =>
 M.bind (noPan (M.pure (strip t21_101))) fun t12_102 =>
 M.bind (noPan (ex 0 t12_102)) fun t22_103 =>
 M.bind (noPan (ex 1 (tupDrop 0 t12_102))) fun t23_104 =>
 M.bind (noPan (ex 2 (tupDrop 1 (tupDrop 0 t12_102)))) fun t24_105 =>
 M.bind (noPan (al [(.int .i64 0), (.bool false), (.int .i64 0)])) fun t3_106 =>
 M.bind (noPan (st 3 true t3_106 t22_103)) fun _ =>
 M.bind (noPan (M.pure t23_104)) fun t4_108 =>
 M.bind (noPan (M.pure t24_105)) fun t5_109 =>
 M.bind (bi .neq .none (strip t5_109) (.int .i64 0)) fun t26_110 =>
 condM t26_110
 (M.bind (C u0d [(strip (strip a0)), (strip (strip t4_108)), (strip (strip t5_109))]) fun t30_111 =>
 M.bind (bd [(.int .i64 0), (.bool false), (.int .i64 0)] []) fun t31_112 =>
 M.bind (st 3 true t2_0 t31_112) fun _ =>
 M.bind (ld (some 3) true t2_0) fun t0_114 => guardM (!isTup t0_114) (M.pure t0_114))
 (M.bind (nc P (strip a0)) fun t34_115 =>
 M.bind (fa 1 t34_115) fun t35_116 =>
 M.bind (st 1 true t35_116 t4_108) fun _ =>
 M.bind (ld (some 3) true t3_106) fun t36_118 =>
 M.bind (st 3 true t2_0 t36_118) fun _ =>
 M.bind (ld (some 3) true t2_0) fun t0_120 => guardM (!isTup t0_120) (M.pure t0_120)))) := by
 rw [C, u03 _ _ rfl]; kernel_rfl
noncomputable def u3h (v0 v2 v3 v5 : PV) : M PV := atP P X u2j [1, 1, 1, 1, 1] (mkEnv 38 0 [(0, v0), (2, v2), (3, v3), (5, v5)])
noncomputable def u37 (v0 v2 v3 : PV) : M PV := atP P X u2j [1, 1, 1, 1, 1, 1, 1] (mkEnv 38 0 [(0, v0), (2, v2), (3, v3)])
theorem u17 (v0 v2 v3 v5 : PV) : u3h v0 v2 v3 v5 =
 M.bind (fa 0 v3) fun t25_0 =>
 M.bind (st 1 true t25_0 v5) fun _ =>
 M.bind (bi .geq .none (strip (strip v5)) (.int .u32 64)) fun t27_2 =>
 condM t27_2
 (M.bind (bi .sub .none (strip (strip v5)) (.int .u32 64)) fun t29_3 =>
 M.bind (fa 0 v3) fun t30_4 =>
 M.bind (st 1 true t30_4 t29_3) fun _ =>
 M.bind (C u0b [(strip (strip v0))]) fun t32_6 =>
 M.bind (fa 1 v3) fun t33_7 =>
 M.bind (st 1 true t33_7 t32_6) fun _ =>
 u37 v0 v2 v3)
 (u37 v0 v2 v3) :=
 (u0k P X _ _ _).trans (by kernel_rfl)
theorem u13 (v0 v2 v3 : PV) : u37 v0 v2 v3 =
 M.bind (C u10 [(strip (strip v0)), (.int .i64 64), (.bool false)]) fun t35_0 =>
 M.bind (fa 2 v3) fun t36_1 =>
 M.bind (st 1 true t36_1 t35_0) fun _ =>
 M.bind (ld (some 3) true v3) fun t37_3 =>
 M.bind (st 3 true v2 t37_3) fun _ =>
 M.bind (ld (some 3) true v2) fun t0_5 => guardM (!isTup t0_5) (M.pure t0_5) :=
 (u0k P X _ _ _).trans (by kernel_rfl)
theorem u92 (a0 : PV) : C u2j [a0] =
 trunc (M.bind (al [(.int .u32 0), (.int .u32 0), (.int .u64 0)]) fun t2_0 =>
 M.bind (al [(.int .u32 0), (.int .u32 0), (.int .u64 0)]) fun t3_1 =>
 M.bind (nc P (strip a0)) fun t7_2 =>
 M.bind (fa 1 t7_2) fun t8_3 =>
 M.bind (ld none true t8_3) fun t9_4 =>
 M.bind (C u0b [(strip (strip a0))]) fun t11_5 =>
 M.bind (nc P (strip a0)) fun t13_6 =>
 M.bind (fa 3 t13_6) fun t14_7 =>
 M.bind (ld none false t14_7) fun t15_8 =>
 M.bind (bi .eql .none t15_8 (.int .i64 0)) fun t16_9 =>
 M.bind (gd (strip t16_9) true (M.pure (strip t11_5))) fun t18_10 =>
 M.bind (gd (strip t16_9) true (bi .geq .none t18_10 (.int .u32 128))) fun t19_11 =>
 M.bind (pick (strip t16_9) t19_11 (.bool false)) fun t20_12 =>
 condM t20_12
 (M.bind (C u0d [(strip (strip a0)), (strip (strip t9_4)), (.int .i64 4)]) fun t23_13 =>
 u3h a0 t2_0 t3_1 t11_5)
 (u3h a0 t2_0 t3_1 t11_5)) := by
 rw [C, u03 _ _ rfl]; kernel_rfl
theorem u40 (a0 a1 a2 : PV) : C u10 [a0, a1, a2] =
 trunc (M.bind (nc P (strip a0)) fun t11_0 =>
 M.bind (fa 3 t11_0) fun t12_1 =>
 M.bind (ld none false t12_1) fun t13_2 =>
 M.bind (bi .neq .none t13_2 (.int .i64 0)) fun t14_3 =>
 condM t14_3
 (M.pure (.int .u64 0))
 (M.bind (noPan (M.pure (strip a0))) fun t16_27 =>
 M.bind (noPan (nc P t16_27)) fun t17_28 =>
 M.bind (noPan (fa 0 t17_28)) fun t18_29 =>
 M.bind (noPan (M.pure (strip a0))) fun t20_30 =>
 M.bind (noPan (nc P t20_30)) fun t21_31 =>
 M.bind (noPan (fa 1 t21_31)) fun t22_32 =>
 M.bind (noPan (M.pure (strip a0))) fun t24_33 =>
 M.bind (noPan (nc P t24_33)) fun t25_34 =>
 M.bind (noPan (fa 0 t25_34)) fun t26_35 =>
 M.bind (noPan (M.pure (strip a1))) fun t29_36 =>
 M.bind (noPan (M.pure (strip a2))) fun t30_37 =>
 M.bind (noPan (ld none false t18_29)) fun t19_38 =>
 M.bind (noPan (ld none false t22_32)) fun t23_39 =>
 M.bind (noPan (ld none false t26_35)) fun t27_40 =>
 M.bind (noPan (lnL t27_40)) fun t28_41 =>
 M.bind (noPan (C u0e [(strip t19_38), (strip t23_39), (strip t28_41), (strip t29_36), (strip t30_37)])) fun t31_42 =>
 M.bind (noPan (M.pure (strip t31_42))) fun t15_43 =>
 M.bind (noPan (ex 0 t15_43)) fun t32_44 =>
 M.bind (noPan (ex 1 (tupDrop 0 t15_43))) fun t33_45 =>
 M.bind (noPan (ex 2 (tupDrop 1 (tupDrop 0 t15_43)))) fun t34_46 =>
 M.bind (noPan (M.pure t32_44)) fun t7_47 =>
 M.bind (noPan (M.pure t33_45)) fun t8_48 =>
 M.bind (noPan (M.pure t34_46)) fun t9_49 =>
 M.bind (bi .neq .none (strip t9_49) (.int .i64 0)) fun t36_50 =>
 condM t36_50
 (M.bind (C u0d [(strip (strip a0)), (strip (strip t8_48)), (strip (strip t9_49))]) fun t40_51 =>
 M.pure (.int .u64 0))
 (M.bind (nc P (strip a0)) fun t43_52 =>
 M.bind (fa 1 t43_52) fun t44_53 =>
 M.bind (st 1 true t44_53 t8_48) fun _ =>
 resT t7_47 (M.pure t7_47)))) := by
 rw [C, u03 _ _ rfl]; kernel_rfl
theorem u4d (a0 a1 : PV) : C u0v [a0, a1] =
 trunc (M.bind (nc P (strip a0)) fun t9_0 =>
 M.bind (fa 3 t9_0) fun t10_1 =>
 M.bind (ld none false t10_1) fun t11_2 =>
 M.bind (bi .neq .none t11_2 (.int .i64 0)) fun t12_3 =>
 condM t12_3
 (M.pure (.int .u64 0))
 (M.bind (noPan (M.pure (strip a0))) fun t14_26 =>
 M.bind (noPan (nc P t14_26)) fun t15_27 =>
 M.bind (noPan (fa 0 t15_27)) fun t16_28 =>
 M.bind (noPan (M.pure (strip a0))) fun t18_29 =>
 M.bind (noPan (nc P t18_29)) fun t19_30 =>
 M.bind (noPan (fa 1 t19_30)) fun t20_31 =>
 M.bind (noPan (M.pure (strip a0))) fun t22_32 =>
 M.bind (noPan (nc P t22_32)) fun t23_33 =>
 M.bind (noPan (fa 0 t23_33)) fun t24_34 =>
 M.bind (noPan (M.pure (strip a1))) fun t27_35 =>
 M.bind (noPan (ld none false t16_28)) fun t17_36 =>
 M.bind (noPan (ld none false t20_31)) fun t21_37 =>
 M.bind (noPan (ld none false t24_34)) fun t25_38 =>
 M.bind (noPan (lnL t25_38)) fun t26_39 =>
 M.bind (noPan (C u1d [(strip t17_36), (strip t21_37), (strip t26_39), (strip t27_35)])) fun t28_40 =>
 M.bind (noPan (M.pure (strip t28_40))) fun t13_41 =>
 M.bind (noPan (ex 0 t13_41)) fun t29_42 =>
 M.bind (noPan (ex 1 (tupDrop 0 t13_41))) fun t30_43 =>
 M.bind (noPan (ex 2 (tupDrop 1 (tupDrop 0 t13_41)))) fun t31_44 =>
 M.bind (noPan (M.pure t29_42)) fun t5_45 =>
 M.bind (noPan (M.pure t30_43)) fun t6_46 =>
 M.bind (noPan (M.pure t31_44)) fun t7_47 =>
 M.bind (bi .neq .none (strip t7_47) (.int .i64 0)) fun t33_48 =>
 condM t33_48
 (M.bind (C u0d [(strip (strip a0)), (strip (strip t6_46)), (strip (strip t7_47))]) fun t37_49 =>
 M.pure (.int .u64 0))
 (M.bind (nc P (strip a0)) fun t40_50 =>
 M.bind (fa 1 t40_50) fun t41_51 =>
 M.bind (st 1 true t41_51 t6_46) fun _ =>
 resT t5_45 (M.pure t5_45)))) := by
 rw [C, u03 _ _ rfl]; kernel_rfl
theorem ud3 (a0 a1 : PV) : C u3c [a0, a1] =
 trunc (M.bind (al [(.int .i64 0), (.bool false), (.int .i64 0)]) fun t4_0 =>
 M.bind (bd [(.int .i64 0), (.bool false), (.int .i64 0)] [(0, 1, (.int .i64 5)), (1, 1, (strip a0)), (2, 1, (strip a1))]) fun t7_1 =>
 M.bind (st 3 true t4_0 t7_1) fun _ =>
 M.bind (ld (some 3) true t4_0) fun t0_3 => guardM (!isTup t0_3) (M.pure t0_3)) := by
 rw [C, u03 _ _ rfl]; kernel_rfl
theorem u8s (a0 : PV) : C u1o [a0] =
 trunc (M.bind (nc P (strip a0)) fun t7_0 =>
 M.bind (fa 3 t7_0) fun t8_1 =>
 M.bind (ld none false t8_1) fun t9_2 =>
 M.bind (bi .neq .none t9_2 (.int .i64 0)) fun t10_3 =>
 condM t10_3
 (M.pure (.int .i64 0))
 (M.bind (noPan (M.pure (strip a0))) fun t12_20 =>
 M.bind (noPan (nc P t12_20)) fun t13_21 =>
 M.bind (noPan (fa 0 t13_21)) fun t14_22 =>
 M.bind (noPan (M.pure (strip a0))) fun t16_23 =>
 M.bind (noPan (nc P t16_23)) fun t17_24 =>
 M.bind (noPan (fa 1 t17_24)) fun t18_25 =>
 M.bind (noPan (ld none false t14_22)) fun t15_26 =>
 M.bind (noPan (ld none false t18_25)) fun t19_27 =>
 M.bind (noPan (C u4p [(strip t15_26), (strip t19_27)])) fun t20_28 =>
 M.bind (noPan (M.pure (strip t20_28))) fun t11_29 =>
 M.bind (noPan (ex 0 t11_29)) fun t21_30 =>
 M.bind (noPan (ex 1 (tupDrop 0 t11_29))) fun t22_31 =>
 M.bind (noPan (ex 2 (tupDrop 1 (tupDrop 0 t11_29)))) fun t23_32 =>
 M.bind (noPan (M.pure t21_30)) fun t3_33 =>
 M.bind (noPan (M.pure t22_31)) fun t4_34 =>
 M.bind (noPan (M.pure t23_32)) fun t5_35 =>
 M.bind (bi .neq .none (strip t5_35) (.int .i64 0)) fun t25_36 =>
 condM t25_36
 (M.bind (C u0d [(strip (strip a0)), (strip (strip t4_34)), (strip (strip t5_35))]) fun t29_37 =>
 M.pure (.int .i64 0))
 (M.bind (nc P (strip a0)) fun t32_38 =>
 M.bind (fa 1 t32_38) fun t33_39 =>
 M.bind (st 1 true t33_39 t4_34) fun _ =>
 resT t3_33 (M.pure t3_33)))) := by
 rw [C, u03 _ _ rfl]; kernel_rfl
noncomputable def u39 (v4 v6 : PV) : M PV := atP P X u24 [1, 1, 1, 1] (mkEnv 28 0 [(4, v4), (6, v6)])
theorem u2t (v4 v6 : PV) : u39 v4 v6 =
 resT v6 (M.pure v6) :=
 (u0k P X _ _ _).trans (by kernel_rfl)
theorem u8e (a0 a1 : PV) : C u24 [a0, a1] =
 trunc (M.bind (nc P (strip a0)) fun t8_0 =>
 M.bind (fa 1 t8_0) fun t9_1 =>
 M.bind (ld none true t9_1) fun t10_2 =>
 M.bind (C u0v [(strip (strip a0)), (.int .i64 1)]) fun t12_3 =>
 M.bind (cv (.int .u8) true t12_3) fun t13_4 =>
 M.bind (nc P (strip a0)) fun t15_5 =>
 M.bind (fa 3 t15_5) fun t16_6 =>
 M.bind (ld none false t16_6) fun t17_7 =>
 M.bind (bi .eql .none t17_7 (.int .i64 0)) fun t18_8 =>
 M.bind (gd (strip t18_8) true (M.pure (strip t13_4))) fun t20_9 =>
 M.bind (gd (strip t18_8) true (M.pure (strip a1))) fun t21_10 =>
 M.bind (gd (strip t18_8) true (bi .gtr .none t20_9 t21_10)) fun t22_11 =>
 M.bind (pick (strip t18_8) t22_11 (.bool false)) fun t23_12 =>
 condM t23_12
 (M.bind (C u0d [(strip (strip a0)), (strip (strip t10_2)), (.int .i64 4)]) fun t26_13 =>
 u39 (.int .u8 0) t13_4)
 (u39 (.int .u8 0) t13_4)) := by
 rw [C, u03 _ _ rfl]; kernel_rfl
theorem u8r (a0 a1 a2 : PV) : C u0d [a0, a1, a2] =
 trunc (M.bind (nc P (strip a0)) fun t7_0 =>
 M.bind (fa 3 t7_0) fun t8_1 =>
 M.bind (ld none false t8_1) fun t9_2 =>
 M.bind (bi .eql .none t9_2 (.int .i64 0)) fun t10_3 =>
 condM t10_3
 (M.bind (nc P (strip a0)) fun t13_4 =>
 M.bind (fa 2 t13_4) fun t14_5 =>
 M.bind (st 1 true t14_5 a1) fun _ =>
 M.bind (nc P (strip a0)) fun t17_7 =>
 M.bind (fa 3 t17_7) fun t18_8 =>
 M.bind (st 1 true t18_8 a2) fun _ =>
 M.pure (.tup []))
 (M.pure (.tup []))) := by
 rw [C, u03 _ _ rfl]; kernel_rfl
end Go.Proofs.YthidcpkcfoldmaaGreat.Pi.Q
namespace Go.Proofs.YthidcpkcfoldmaaGreat.Pi.Q
open Go Go.Proofs.YthidcpkcfoldmaaGreat.Pi
noncomputable def u61 (v0 v2 v3 v4 v5 : PV) : M PV := atP P X u3s [1, 1, 1] (mkEnv 65 0 [(0, v0), (2, v2), (3, v3), (4, v4), (5, v5)])
noncomputable def u3j (v0 v2 v3 v4 v5 v6 : PV) : M PV := atP P X u3s [1, 1, 1, 0, 1, 0] (mkEnv 65 0 [(0, v0), (2, v2), (3, v3), (4, v4), (5, v5), (6, v6)])
noncomputable def u4e (v0 v2 v3 v4 v5 v6 : PV) : M PV := atP P X u3s [1, 1, 1, 0, 1, 0, 0, 1, 1] (mkEnv 65 0 [(0, v0), (2, v2), (3, v3), (4, v4), (5, v5), (6, v6)])
theorem u6z (v0 v2 v3 v4 v5 : PV) : u61 v0 v2 v3 v4 v5 =
 u3j v0 v2 v3 v4 v5 (.int .i64 0) :=
 (u0k P X _ _ _).trans (by kernel_rfl)
theorem u1z (v0 v2 v3 v4 v5 v6 : PV) : u3j v0 v2 v3 v4 v5 v6 =
 M.bind (lnL (strip v5)) fun t15_0 =>
 M.bind (bi .lss .none (strip v6) t15_0) fun t16_1 =>
 condM t16_1
 (M.bind (iaS 4 (strip v5) (strip v6)) fun t22_2 =>
 M.bind (fa 0 t22_2) fun t23_3 =>
 M.bind (ld none false t23_3) fun t24_4 =>
 M.bind (bi .lss .none (strip v0) t24_4) fun t25_5 =>
 M.bind (gd (strip t25_5) false (M.pure (strip v0))) fun t27_6 =>
 M.bind (gd (strip t25_5) false (M.pure (strip v5))) fun t28_7 =>
 M.bind (gd (strip t25_5) false (M.pure (strip v6))) fun t29_8 =>
 M.bind (gd (strip t25_5) false (iaS 4 t28_7 t29_8)) fun t30_9 =>
 M.bind (gd (strip t25_5) false (fa 0 t30_9)) fun t31_10 =>
 M.bind (gd (strip t25_5) false (ld none false t31_10)) fun t32_11 =>
 M.bind (gd (strip t25_5) false (bi .add .none t32_11 (.int .i64 32))) fun t33_12 =>
 M.bind (gd (strip t25_5) false (bi .geq .none t27_6 t33_12)) fun t34_13 =>
 M.bind (pick (strip t25_5) (.bool true) t34_13) fun t35_14 =>
 condM t35_14
 (u4e v0 v2 v3 v4 v5 v6)
 (M.bind (noPan (M.pure (strip v5))) fun t37_33 =>
 M.bind (noPan (M.pure (strip v6))) fun t38_34 =>
 M.bind (noPan (iaS 4 t37_33 t38_34)) fun t39_35 =>
 M.bind (noPan (fa 2 t39_35)) fun t40_36 =>
 M.bind (noPan (M.pure (strip v0))) fun t42_37 =>
 M.bind (noPan (M.pure (strip v5))) fun t43_38 =>
 M.bind (noPan (M.pure (strip v6))) fun t44_39 =>
 M.bind (noPan (iaS 4 t43_38 t44_39)) fun t45_40 =>
 M.bind (noPan (fa 0 t45_40)) fun t46_41 =>
 M.bind (noPan (ld none false t40_36)) fun t41_42 =>
 M.bind (noPan (ld none false t46_41)) fun t47_43 =>
 M.bind (noPan (bi .sub .none t42_37 t47_43)) fun t48_44 =>
 M.bind (noPan (C u57 [(strip t41_42), (strip t48_44)])) fun t49_45 =>
 M.bind (noPan (M.pure (strip t49_45))) fun t36_46 =>
 M.bind (noPan (ex 0 t36_46)) fun t50_47 =>
 M.bind (noPan (ex 1 (tupDrop 0 t36_46))) fun t51_48 =>
 M.bind (noPan (M.pure t50_47)) fun t7_49 =>
 M.bind (noPan (M.pure t51_48)) fun t8_50 =>
 condM (strip t8_50)
 (chk
 (M.bind (noPan (M.pure (strip v5))) fun t53_65 =>
 M.bind (noPan (M.pure (strip v6))) fun t54_66 =>
 M.bind (noPan (iaS 4 t53_65 t54_66)) fun t55_67 =>
 M.bind (noPan (M.pure (strip v5))) fun t57_68 =>
 M.bind (noPan (M.pure (strip v6))) fun t58_69 =>
 M.bind (noPan (iaS 4 t57_68 t58_69)) fun t59_70 =>
 M.bind (noPan (fa 1 t59_70)) fun t60_71 =>
 M.bind (noPan (M.pure (strip t7_49))) fun t62_72 =>
 M.bind (noPan (ld (some 4) true t55_67)) fun t56_73 =>
 M.bind (noPan (st 4 true v2 t56_73)) fun _ =>
 M.bind (noPan (ld none false t60_71)) fun t61_75 =>
 M.bind (noPan (bi .add .none t61_75 t62_72)) fun t63_76 =>
 M.bind (noPan (M.pure t63_76)) fun t3_77 =>
 M.bind (noPan (M.pure (.bool true))) fun t4_78 =>
 M.pure [v0, PV.undef, v2, t3_77, t4_78, v5, v6, t7_49, t8_50, PV.undef, PV.undef, PV.undef, PV.undef, (strip v6), (strip v5), t15_0, t16_1, PV.undef, PV.undef, (strip v0), (strip v5), (strip v6), t22_2, t23_3, t24_4, t25_5, (strip t25_5), t27_6, t28_7, t29_8, t30_9, t31_10, t32_11, t33_12, t34_13, t35_14, (tupDrop 1 (tupDrop 0 t36_46)), t37_33, t38_34, t39_35, t40_36, t41_42, t42_37, t43_38, t44_39, t45_40, t46_41, t47_43, t48_44, t49_45, (strip t50_47), (strip t51_48), (strip t8_50), t53_65, t54_66, t55_67, (strip t56_73), t57_68, t58_69, t59_70, t60_71, t61_75, t62_72, (strip t63_76), PV.undef])
 (M.bind (noPan (M.pure (strip v5))) fun t53_51 =>
 M.bind (noPan (M.pure (strip v6))) fun t54_52 =>
 M.bind (noPan (iaS 4 t53_51 t54_52)) fun t55_53 =>
 M.bind (noPan (M.pure (strip v5))) fun t57_54 =>
 M.bind (noPan (M.pure (strip v6))) fun t58_55 =>
 M.bind (noPan (iaS 4 t57_54 t58_55)) fun t59_56 =>
 M.bind (noPan (fa 1 t59_56)) fun t60_57 =>
 M.bind (noPan (M.pure (strip t7_49))) fun t62_58 =>
 M.bind (noPan (ld (some 4) true t55_53)) fun t56_59 =>
 M.bind (noPan (ld none false t60_57)) fun t61_60 =>
 M.bind (noPan (bi .add .none t61_60 t62_58)) fun t63_61 =>
 M.bind (noPan (st 4 true v2 t56_59)) fun _ =>
 M.bind (noPan (M.pure t63_61)) fun t3_63 =>
 M.bind (noPan (M.pure (.bool true))) fun t4_64 =>
 M.pure [v0, PV.undef, v2, t3_63, t4_64, v5, v6, t7_49, t8_50, PV.undef, PV.undef, PV.undef, PV.undef, (strip v6), (strip v5), t15_0, t16_1, PV.undef, PV.undef, (strip v0), (strip v5), (strip v6), t22_2, t23_3, t24_4, t25_5, (strip t25_5), t27_6, t28_7, t29_8, t30_9, t31_10, t32_11, t33_12, t34_13, t35_14, (tupDrop 1 (tupDrop 0 t36_46)), t37_33, t38_34, t39_35, t40_36, t41_42, t42_37, t43_38, t44_39, t45_40, t46_41, t47_43, t48_44, t49_45, (strip t50_47), (strip t51_48), (strip t8_50), t53_51, t54_52, t55_53, (strip t56_59), t57_54, t58_55, t59_56, t60_57, t61_60, t62_58, (strip t63_61), PV.undef]) <|
 chk
 (M.bind (noPan (M.pure (strip v5))) fun t53_79 =>
 M.bind (noPan (M.pure (strip v6))) fun t54_80 =>
 M.bind (noPan (iaS 4 t53_79 t54_80)) fun t55_81 =>
 M.bind (noPan (M.pure (strip v5))) fun t57_82 =>
 M.bind (noPan (M.pure (strip v6))) fun t58_83 =>
 M.bind (noPan (iaS 4 t57_82 t58_83)) fun t59_84 =>
 M.bind (noPan (fa 1 t59_84)) fun t60_85 =>
 M.bind (noPan (M.pure (strip t7_49))) fun t62_86 =>
 M.bind (noPan (ld none false t60_85)) fun t61_87 =>
 M.bind (noPan (bi .add .none t61_87 t62_86)) fun t63_88 =>
 M.bind (noPan (ld (some 4) true t55_81)) fun t56_89 =>
 M.bind (noPan (st 4 true v2 t56_89)) fun _ =>
 M.bind (noPan (M.pure t63_88)) fun t3_91 =>
 M.bind (noPan (M.pure (.bool true))) fun t4_92 =>
 M.pure [v0, PV.undef, v2, t3_91, t4_92, v5, v6, t7_49, t8_50, PV.undef, PV.undef, PV.undef, PV.undef, (strip v6), (strip v5), t15_0, t16_1, PV.undef, PV.undef, (strip v0), (strip v5), (strip v6), t22_2, t23_3, t24_4, t25_5, (strip t25_5), t27_6, t28_7, t29_8, t30_9, t31_10, t32_11, t33_12, t34_13, t35_14, (tupDrop 1 (tupDrop 0 t36_46)), t37_33, t38_34, t39_35, t40_36, t41_42, t42_37, t43_38, t44_39, t45_40, t46_41, t47_43, t48_44, t49_45, (strip t50_47), (strip t51_48), (strip t8_50), t53_79, t54_80, t55_81, (strip t56_89), t57_82, t58_83, t59_84, t60_85, t61_87, t62_86, (strip t63_88), PV.undef])
 (M.bind (noPan (M.pure (strip v5))) fun t53_51 =>
 M.bind (noPan (M.pure (strip v6))) fun t54_52 =>
 M.bind (noPan (iaS 4 t53_51 t54_52)) fun t55_53 =>
 M.bind (noPan (M.pure (strip v5))) fun t57_54 =>
 M.bind (noPan (M.pure (strip v6))) fun t58_55 =>
 M.bind (noPan (iaS 4 t57_54 t58_55)) fun t59_56 =>
 M.bind (noPan (fa 1 t59_56)) fun t60_57 =>
 M.bind (noPan (M.pure (strip t7_49))) fun t62_58 =>
 M.bind (noPan (ld (some 4) true t55_53)) fun t56_59 =>
 M.bind (noPan (ld none false t60_57)) fun t61_60 =>
 M.bind (noPan (bi .add .none t61_60 t62_58)) fun t63_61 =>
 M.bind (noPan (st 4 true v2 t56_59)) fun _ =>
 M.bind (noPan (M.pure t63_61)) fun t3_63 =>
 M.bind (noPan (M.pure (.bool true))) fun t4_64 =>
 M.pure [v0, PV.undef, v2, t3_63, t4_64, v5, v6, t7_49, t8_50, PV.undef, PV.undef, PV.undef, PV.undef, (strip v6), (strip v5), t15_0, t16_1, PV.undef, PV.undef, (strip v0), (strip v5), (strip v6), t22_2, t23_3, t24_4, t25_5, (strip t25_5), t27_6, t28_7, t29_8, t30_9, t31_10, t32_11, t33_12, t34_13, t35_14, (tupDrop 1 (tupDrop 0 t36_46)), t37_33, t38_34, t39_35, t40_36, t41_42, t42_37, t43_38, t44_39, t45_40, t46_41, t47_43, t48_44, t49_45, (strip t50_47), (strip t51_48), (strip t8_50), t53_51, t54_52, t55_53, (strip t56_59), t57_54, t58_55, t59_56, t60_57, t61_60, t62_58, (strip t63_61), PV.undef]) <|
 M.bind (noPan (M.pure (strip v5))) fun t53_93 =>
 M.bind (noPan (M.pure (strip v6))) fun t54_94 =>
 M.bind (noPan (iaS 4 t53_93 t54_94)) fun t55_95 =>
 M.bind (noPan (M.pure (strip v5))) fun t57_96 =>
 M.bind (noPan (M.pure (strip v6))) fun t58_97 =>
 M.bind (noPan (iaS 4 t57_96 t58_97)) fun t59_98 =>
 M.bind (noPan (fa 1 t59_98)) fun t60_99 =>
 M.bind (noPan (M.pure (strip t7_49))) fun t62_100 =>
 M.bind (noPan (ld (some 4) true t55_95)) fun t56_101 =>
 M.bind (noPan (ld none false t60_99)) fun t61_102 =>
 M.bind (noPan (bi .add .none t61_102 t62_100)) fun t63_103 =>
 M.bind (noPan (st 4 true v2 t56_101)) fun _ =>
 M.bind (noPan (M.pure t63_103)) fun t3_105 =>
 M.bind (noPan (M.pure (.bool true))) fun t4_106 =>
 M.bind (ld (some 4) true v2) fun t0_107 => guardM (!isTup t0_107) (resT t3_105 (resT t4_106 (M.pure (.tup [t0_107, t3_105, t4_106])))))
 (u4e v0 v2 v3 v4 v5 v6)))
 (M.bind (bd [(.int .i64 0), (.str ⟨#[]⟩), (.str ⟨#[]⟩), (.str ⟨#[]⟩)] []) fun t64_108 =>
 M.bind (st 4 true v2 t64_108) fun _ =>
 M.bind (ld (some 4) true v2) fun t0_110 => guardM (!isTup t0_110) (M.pure (.tup [t0_110, (.str ⟨#[]⟩), (.bool false)]))) :=
 (u0k P X _ _ _).trans (by kernel_rfl)
theorem u3i (v0 v2 v3 v4 v5 v6 : PV) : u4e v0 v2 v3 v4 v5 v6 =
 M.bind (bi .add .none (strip v6) (.int .i64 1)) fun t18_0 =>
 u3j v0 v2 v3 v4 v5 t18_0 :=
 (u0k P X _ _ _).trans (by kernel_rfl)
theorem uc8 (a0 : PV) : C u3s [a0] =
 trunc (M.bind (al [(.int .i64 0), (.str ⟨#[]⟩), (.str ⟨#[]⟩), (.str ⟨#[]⟩)]) fun t2_0 =>
 M.bind (C u73 []) fun t9_1 =>
 M.bind (bi .geq .none (strip a0) (.int .i64 208)) fun t11_2 =>
 condM t11_2
 (M.bind (C u7k []) fun t12_3 =>
 u61 a0 t2_0 (.str ⟨#[]⟩) (.bool false) t12_3)
 (u61 a0 t2_0 (.str ⟨#[]⟩) (.bool false) t9_1)) := by
 rw [C, u03 _ _ rfl]; kernel_rfl
theorem ucd (a0 a1 : PV) : C u3u [a0, a1] =
 trunc (M.bind (bx 3 a0) fun t2_0 =>
 M.bind (bx 3 a1) fun t3_1 =>
 M.bind (fa 0 t2_0) fun t5_2 =>
 M.bind (ld none false t5_2) fun t6_3 =>
 M.bind (fa 0 t3_1) fun t7_4 =>
 M.bind (ld none false t7_4) fun t8_5 =>
 M.bind (bi .eql .none t6_3 t8_5) fun t9_6 =>
 M.bind (gd (strip t9_6) true (fa 0 t2_0)) fun t11_7 =>
 M.bind (gd (strip t9_6) true (ld none false t11_7)) fun t12_8 =>
 M.bind (gd (strip t9_6) true (bi .neq .none t12_8 (.int .i64 5))) fun t13_9 =>
 M.bind (gd (strip t9_6) true (M.pure (strip t13_9))) fun t14_10 =>
 M.bind (gd t14_10 false (fa 1 t2_0)) fun t15_11 =>
 M.bind (gd t14_10 false (ld none false t15_11)) fun t16_12 =>
 M.bind (gd t14_10 false (fa 1 t3_1)) fun t17_13 =>
 M.bind (gd t14_10 false (ld none false t17_13)) fun t18_14 =>
 M.bind (gd t14_10 false (bi .eql .bool t16_12 t18_14)) fun t19_15 =>
 M.bind (gd t14_10 false (M.pure (strip t19_15))) fun t20_16 =>
 M.bind (gd t20_16 true (fa 2 t2_0)) fun t21_17 =>
 M.bind (gd t20_16 true (ld none false t21_17)) fun t22_18 =>
 M.bind (gd t20_16 true (fa 2 t3_1)) fun t23_19 =>
 M.bind (gd t20_16 true (ld none false t23_19)) fun t24_20 =>
 M.bind (gd t20_16 true (bi .eql .none t22_18 t24_20)) fun t25_21 =>
 M.bind (gd t14_10 false (pick t20_16 t25_21 (.bool false))) fun t26_22 =>
 M.bind (gd (strip t9_6) true (pick t14_10 (.bool true) t26_22)) fun t27_23 =>
 M.bind (pick (strip t9_6) t27_23 (.bool false)) fun t28_24 =>
 resT t28_24 (M.pure t28_24)) := by
 rw [C, u03 _ _ rfl]; kernel_rfl
noncomputable def u62 (v1 v4 v7 v8 v9 : PV) : M PV := atP P X u7d [1, 0, 1, 0] (mkEnv 42 0 [(1, v1), (4, v4), (7, v7), (8, v8), (9, v9)])
theorem u4y (v1 v4 v7 v8 v9 : PV) : u62 v1 v4 v7 v8 v9 =
 M.bind (bi .lss .none v9 v8) fun t10_0 =>
 condM t10_0
 (M.bind (iaS 5 v7 v9) fun t11_1 =>
 M.bind (ld (some 5) true t11_1) fun t12_2 =>
 M.bind (al [(.int .i64 0), (.int .i64 0), (.str ⟨#[]⟩), (.str ⟨#[]⟩), (.int .i64 0)]) fun t6_3 =>
 M.bind (st 5 true t6_3 t12_2) fun _ =>
 M.bind (fa 0 t6_3) fun t14_5 =>
 M.bind (ld none false t14_5) fun t15_6 =>
 M.bind (bi .geq .none (strip v1) t15_6) fun t16_7 =>
 M.bind (gd (strip t16_7) true (M.pure (strip v1))) fun t18_8 =>
 M.bind (gd (strip t16_7) true (fa 0 t6_3)) fun t19_9 =>
 M.bind (gd (strip t16_7) true (ld none false t19_9)) fun t20_10 =>
 M.bind (gd (strip t16_7) true (fa 1 t6_3)) fun t21_11 =>
 M.bind (gd (strip t16_7) true (ld none false t21_11)) fun t22_12 =>
 M.bind (gd (strip t16_7) true (bi .add .none t20_10 t22_12)) fun t23_13 =>
 M.bind (gd (strip t16_7) true (bi .lss .none t18_8 t23_13)) fun t24_14 =>
 M.bind (pick (strip t16_7) t24_14 (.bool false)) fun t25_15 =>
 condM t25_15
 (nb (M.pure (strip v1)) fun t26_16 =>
 nb (fa 2 t6_3) fun t27_17 =>
 guardM (!clash (tld t27_17) (.no) && true) <| nb (ld none false t27_17) fun t28_18 =>
 nb (fa 3 t6_3) fun t29_19 =>
 guardM (!clash (tld t29_19) (tld t27_17) && (!clash (tld t29_19) (.no) && (!clash (tld t29_19) (.no) && true))) <| nb (ld none false t29_19) fun t30_20 =>
 nb (M.pure (strip v1)) fun t31_21 =>
 nb (fa 0 t6_3) fun t32_22 =>
 guardM (!clash (tld t32_22) (.no) && (!clash (tld t32_22) (tld t29_19) && (!clash (tld t32_22) (.no) && (!clash (tld t32_22) (tld t27_17) && (!clash (tld t32_22) (.no) && (!clash (tld t32_22) (.no) && true)))))) <| nb (ld none false t32_22) fun t33_23 =>
 nb (bi .sub .none t31_21 t33_23) fun t34_24 =>
 guardM (!clash (.any) (tld t27_17) && (!clash (.any) (.no) && (!clash (.any) (.no) && true))) <| nb (C uak [(strip t30_20), (strip t34_24)]) fun t35_25 =>
 nb (bi .add .none t28_18 t35_25) fun t36_26 =>
 nb (fa 4 t6_3) fun t37_27 =>
 guardM (!clash (tld t37_27) (.no) && (!clash (tld t37_27) (.any) && (!clash (tld t37_27) (.no) && (!clash (tld t37_27) (tld t32_22) && (!clash (tld t37_27) (.no) && (!clash (tld t37_27) (.no) && (!clash (tld t37_27) (tld t29_19) && (!clash (tld t37_27) (.no) && (!clash (tld t37_27) (tld t27_17) && (!clash (tld t37_27) (.no) && (!clash (tld t37_27) (.no) && true))))))))))) <| nb (ld none false t37_27) fun t38_28 =>
 nb (bd [(.int .i64 0), (.str ⟨#[]⟩), (.int .i64 0)] [(0, 1, t26_16), (1, 1, t36_26), (2, 1, t38_28)]) fun t39_29 =>
 M.bind (noPan (st 3 true v4 t39_29)) fun _ =>
 M.bind (ld (some 3) true v4) fun t0_31 => guardM (!isTup t0_31) (M.pure t0_31))
 (M.bind (bi .add .none v9 (.int .i64 1)) fun t40_32 =>
 u62 v1 v4 v7 v8 (strip t40_32)))
 (M.bind (bd [(.int .i64 0), (.str ⟨#[]⟩), (.int .i64 0)] []) fun t41_33 =>
 M.bind (st 3 true v4 t41_33) fun _ =>
 M.bind (ld (some 3) true v4) fun t0_35 => guardM (!isTup t0_35) (M.pure t0_35)) :=
 (u0k P X _ _ _).trans (by kernel_rfl)
theorem ug0 (a0 a1 : PV) : C u7d [a0, a1] =
 trunc (M.bind (al [(.int .i64 0), (.str ⟨#[]⟩), (.int .i64 0)]) fun t4_0 =>
 M.bind (lnL (strip a0)) fun t8_1 =>
 u62 a1 t4_0 (strip a0) t8_1 (.int .i64 0)) := by
 rw [C, u03 _ _ rfl]; kernel_rfl
theorem ufc : C u97 [] =
 trunc (M.bind (bd [(.int .i64 0), (.int .i64 0), (.str ⟨#[]⟩), (.str ⟨#[]⟩), (.int .i64 0)] [(0, 1, (.int .i64 0)), (1, 1, (.int .i64 2)), (2, 1, (.str ⟨#[]⟩)), (3, 1, (.str ⟨#[117, 110, 114, 101, 97, 99, 104, 97, 98, 108, 101, 32, 110, 111, 112]⟩)), (4, 1, (.int .i64 1))]) fun t1_0 =>
 M.bind (bd [(.int .i64 0), (.int .i64 0), (.str ⟨#[]⟩), (.str ⟨#[]⟩), (.int .i64 0)] [(0, 1, (.int .i64 2)), (1, 1, (.int .i64 3)), (2, 1, (.str ⟨#[]⟩)), (3, 1, (.str ⟨#[98, 108, 111, 99, 107, 32, 108, 111, 111, 112, 32, 105, 102]⟩)), (4, 1, (.int .i64 2))]) fun t2_1 =>
 M.bind (bd [(.int .i64 0), (.int .i64 0), (.str ⟨#[]⟩), (.str ⟨#[]⟩), (.int .i64 0)] [(0, 1, (.int .i64 5)), (1, 1, (.int .i64 1)), (2, 1, (.str ⟨#[]⟩)), (3, 1, (.str ⟨#[101, 108, 115, 101]⟩)), (4, 1, (.int .i64 1))]) fun t3_2 =>
 M.bind (bd [(.int .i64 0), (.int .i64 0), (.str ⟨#[]⟩), (.str ⟨#[]⟩), (.int .i64 0)] [(0, 1, (.int .i64 8)), (1, 1, (.int .i64 1)), (2, 1, (.str ⟨#[]⟩)), (3, 1, (.str ⟨#[116, 104, 114, 111, 119]⟩)), (4, 1, (.int .i64 4))]) fun t4_3 =>
 M.bind (bd [(.int .i64 0), (.int .i64 0), (.str ⟨#[]⟩), (.str ⟨#[]⟩), (.int .i64 0)] [(0, 1, (.int .i64 10)), (1, 1, (.int .i64 2)), (2, 1, (.str ⟨#[]⟩)), (3, 1, (.str ⟨#[116, 104, 114, 111, 119, 95, 114, 101, 102, 32, 101, 110, 100]⟩)), (4, 1, (.int .i64 1))]) fun t5_4 =>
 M.bind (bd [(.int .i64 0), (.int .i64 0), (.str ⟨#[]⟩), (.str ⟨#[]⟩), (.int .i64 0)] [(0, 1, (.int .i64 12)), (1, 1, (.int .i64 2)), (2, 1, (.str ⟨#[]⟩)), (3, 1, (.str ⟨#[98, 114, 32, 98, 114, 95, 105, 102]⟩)), (4, 1, (.int .i64 4))]) fun t6_5 =>
 M.bind (bd [(.int .i64 0), (.int .i64 0), (.str ⟨#[]⟩), (.str ⟨#[]⟩), (.int .i64 0)] [(0, 1, (.int .i64 14)), (1, 1, (.int .i64 1)), (2, 1, (.str ⟨#[]⟩)), (3, 1, (.str ⟨#[98, 114, 95, 116, 97, 98, 108, 101]⟩)), (4, 1, (.int .i64 6))]) fun t7_6 =>
 M.bind (bd [(.int .i64 0), (.int .i64 0), (.str ⟨#[]⟩), (.str ⟨#[]⟩), (.int .i64 0)] [(0, 1, (.int .i64 15)), (1, 1, (.int .i64 1)), (2, 1, (.str ⟨#[]⟩)), (3, 1, (.str ⟨#[114, 101, 116, 117, 114, 110]⟩)), (4, 1, (.int .i64 1))]) fun t8_7 =>
 M.bind (bd [(.int .i64 0), (.int .i64 0), (.str ⟨#[]⟩), (.str ⟨#[]⟩), (.int .i64 0)] [(0, 1, (.int .i64 16)), (1, 1, (.int .i64 1)), (2, 1, (.str ⟨#[]⟩)), (3, 1, (.str ⟨#[99, 97, 108, 108]⟩)), (4, 1, (.int .i64 4))]) fun t9_8 =>
 M.bind (bd [(.int .i64 0), (.int .i64 0), (.str ⟨#[]⟩), (.str ⟨#[]⟩), (.int .i64 0)] [(0, 1, (.int .i64 17)), (1, 1, (.int .i64 1)), (2, 1, (.str ⟨#[]⟩)), (3, 1, (.str ⟨#[99, 97, 108, 108, 95, 105, 110, 100, 105, 114, 101, 99, 116]⟩)), (4, 1, (.int .i64 5))]) fun t10_9 =>
 M.bind (bd [(.int .i64 0), (.int .i64 0), (.str ⟨#[]⟩), (.str ⟨#[]⟩), (.int .i64 0)] [(0, 1, (.int .i64 18)), (1, 1, (.int .i64 1)), (2, 1, (.str ⟨#[]⟩)), (3, 1, (.str ⟨#[114, 101, 116, 117, 114, 110, 95, 99, 97, 108, 108]⟩)), (4, 1, (.int .i64 4))]) fun t11_10 =>
 M.bind (bd [(.int .i64 0), (.int .i64 0), (.str ⟨#[]⟩), (.str ⟨#[]⟩), (.int .i64 0)] [(0, 1, (.int .i64 19)), (1, 1, (.int .i64 1)), (2, 1, (.str ⟨#[]⟩)), (3, 1, (.str ⟨#[114, 101, 116, 117, 114, 110, 95, 99, 97, 108, 108, 95, 105, 110, 100, 105, 114, 101, 99, 116]⟩)), (4, 1, (.int .i64 5))]) fun t12_11 =>
 M.bind (bd [(.int .i64 0), (.int .i64 0), (.str ⟨#[]⟩), (.str ⟨#[]⟩), (.int .i64 0)] [(0, 1, (.int .i64 20)), (1, 1, (.int .i64 2)), (2, 1, (.str ⟨#[]⟩)), (3, 1, (.str ⟨#[99, 97, 108, 108, 95, 114, 101, 102, 32, 114, 101, 116, 117, 114, 110, 95, 99, 97, 108, 108, 95, 114, 101, 102]⟩)), (4, 1, (.int .i64 4))]) fun t13_12 =>
 M.bind (bd [(.int .i64 0), (.int .i64 0), (.str ⟨#[]⟩), (.str ⟨#[]⟩), (.int .i64 0)] [(0, 1, (.int .i64 26)), (1, 1, (.int .i64 2)), (2, 1, (.str ⟨#[]⟩)), (3, 1, (.str ⟨#[100, 114, 111, 112, 32, 115, 101, 108, 101, 99, 116]⟩)), (4, 1, (.int .i64 1))]) fun t14_13 =>
 M.bind (bd [(.int .i64 0), (.int .i64 0), (.str ⟨#[]⟩), (.str ⟨#[]⟩), (.int .i64 0)] [(0, 1, (.int .i64 28)), (1, 1, (.int .i64 1)), (2, 1, (.str ⟨#[]⟩)), (3, 1, (.str ⟨#[115, 101, 108, 101, 99, 116, 95, 116]⟩)), (4, 1, (.int .i64 7))]) fun t15_14 =>
 M.bind (bd [(.int .i64 0), (.int .i64 0), (.str ⟨#[]⟩), (.str ⟨#[]⟩), (.int .i64 0)] [(0, 1, (.int .i64 31)), (1, 1, (.int .i64 1)), (2, 1, (.str ⟨#[]⟩)), (3, 1, (.str ⟨#[116, 114, 121, 95, 116, 97, 98, 108, 101]⟩)), (4, 1, (.int .i64 3))]) fun t16_15 =>
 M.bind (bd [(.int .i64 0), (.int .i64 0), (.str ⟨#[]⟩), (.str ⟨#[]⟩), (.int .i64 0)] [(0, 1, (.int .i64 32)), (1, 1, (.int .i64 7)), (2, 1, (.str ⟨#[]⟩)), (3, 1, (.str ⟨#[108, 111, 99, 97, 108, 46, 103, 101, 116, 32, 108, 111, 99, 97, 108, 46, 115, 101, 116, 32, 108, 111, 99, 97, 108, 46, 116, 101, 101, 32, 103, 108, 111, 98, 97, 108, 46, 103, 101, 116, 32, 103, 108, 111, 98, 97, 108, 46, 115, 101, 116, 32, 116, 97, 98, 108, 101, 46, 103, 101, 116, 32, 116, 97, 98, 108, 101, 46, 115, 101, 116]⟩)), (4, 1, (.int .i64 4))]) fun t17_16 =>
 M.bind (bd [(.int .i64 0), (.int .i64 0), (.str ⟨#[]⟩), (.str ⟨#[]⟩), (.int .i64 0)] [(0, 1, (.int .i64 40)), (1, 1, (.int .i64 23)), (2, 1, (.str ⟨#[]⟩)), (3, 1, (.str ⟨#[105, 51, 50, 46, 108, 111, 97, 100, 32, 105, 54, 52, 46, 108, 111, 97, 100, 32, 102, 51, 50, 46, 108, 111, 97, 100, 32, 102, 54, 52, 46, 108, 111, 97, 100, 32, 105, 51, 50, 46, 108, 111, 97, 100, 56, 95, 115, 32, 105, 51, 50, 46, 108, 111, 97, 100, 56, 95, 117, 32, 105, 51, 50, 46, 108, 111, 97, 100, 49, 54, 95, 115, 32, 105, 51, 50, 46, 108, 111, 97, 100, 49, 54, 95, 117, 32, 105, 54, 52, 46, 108, 111, 97, 100, 56, 95, 115, 32, 105, 54, 52, 46, 108, 111, 97, 100, 56, 95, 117, 32, 105, 54, 52, 46, 108, 111, 97, 100, 49, 54, 95, 115, 32, 105, 54, 52, 46, 108, 111, 97, 100, 49, 54, 95, 117, 32, 105, 54, 52, 46, 108, 111, 97, 100, 51, 50, 95, 115, 32, 105, 54, 52, 46, 108, 111, 97, 100, 51, 50, 95, 117, 32, 105, 51, 50, 46, 115, 116, 111, 114, 101, 32, 105, 54, 52, 46, 115, 116, 111, 114, 101, 32, 102, 51, 50, 46, 115, 116, 111, 114, 101, 32, 102, 54, 52, 46, 115, 116, 111, 114, 101, 32, 105, 51, 50, 46, 115, 116, 111, 114, 101, 56, 32, 105, 51, 50, 46, 115, 116, 111, 114, 101, 49, 54, 32, 105, 54, 52, 46, 115, 116, 111, 114, 101, 56, 32, 105, 54, 52, 46, 115, 116, 111, 114, 101, 49, 54, 32, 105, 54, 52, 46, 115, 116, 111, 114, 101, 51, 50]⟩)), (4, 1, (.int .i64 8))]) fun t18_17 =>
 M.bind (bd [(.int .i64 0), (.int .i64 0), (.str ⟨#[]⟩), (.str ⟨#[]⟩), (.int .i64 0)] [(0, 1, (.int .i64 63)), (1, 1, (.int .i64 2)), (2, 1, (.str ⟨#[]⟩)), (3, 1, (.str ⟨#[109, 101, 109, 111, 114, 121, 46, 115, 105, 122, 101, 32, 109, 101, 109, 111, 114, 121, 46, 103, 114, 111, 119]⟩)), (4, 1, (.int .i64 4))]) fun t19_18 =>
 M.bind (bd [(.int .i64 0), (.int .i64 0), (.str ⟨#[]⟩), (.str ⟨#[]⟩), (.int .i64 0)] [(0, 1, (.int .i64 65)), (1, 1, (.int .i64 1)), (2, 1, (.str ⟨#[]⟩)), (3, 1, (.str ⟨#[105, 51, 50, 46, 99, 111, 110, 115, 116]⟩)), (4, 1, (.int .i64 9))]) fun t20_19 =>
 M.bind (bd [(.int .i64 0), (.int .i64 0), (.str ⟨#[]⟩), (.str ⟨#[]⟩), (.int .i64 0)] [(0, 1, (.int .i64 66)), (1, 1, (.int .i64 1)), (2, 1, (.str ⟨#[]⟩)), (3, 1, (.str ⟨#[105, 54, 52, 46, 99, 111, 110, 115, 116]⟩)), (4, 1, (.int .i64 10))]) fun t21_20 =>
 M.bind (bd [(.int .i64 0), (.int .i64 0), (.str ⟨#[]⟩), (.str ⟨#[]⟩), (.int .i64 0)] [(0, 1, (.int .i64 67)), (1, 1, (.int .i64 1)), (2, 1, (.str ⟨#[]⟩)), (3, 1, (.str ⟨#[102, 51, 50, 46, 99, 111, 110, 115, 116]⟩)), (4, 1, (.int .i64 11))]) fun t22_21 =>
 M.bind (bd [(.int .i64 0), (.int .i64 0), (.str ⟨#[]⟩), (.str ⟨#[]⟩), (.int .i64 0)] [(0, 1, (.int .i64 68)), (1, 1, (.int .i64 1)), (2, 1, (.str ⟨#[]⟩)), (3, 1, (.str ⟨#[102, 54, 52, 46, 99, 111, 110, 115, 116]⟩)), (4, 1, (.int .i64 12))]) fun t23_22 =>
 M.bind (bd [(.int .i64 0), (.int .i64 0), (.str ⟨#[]⟩), (.str ⟨#[]⟩), (.int .i64 0)] [(0, 1, (.int .i64 69)), (1, 1, (.int .i64 11)), (2, 1, (.str ⟨#[105, 51, 50, 46]⟩)), (3, 1, (.str ⟨#[101, 113, 122, 32, 101, 113, 32, 110, 101, 32, 108, 116, 95, 115, 32, 108, 116, 95, 117, 32, 103, 116, 95, 115, 32, 103, 116, 95, 117, 32, 108, 101, 95, 115, 32, 108, 101, 95, 117, 32, 103, 101, 95, 115, 32, 103, 101, 95, 117]⟩)), (4, 1, (.int .i64 1))]) fun t24_23 =>
 M.bind (bd [(.int .i64 0), (.int .i64 0), (.str ⟨#[]⟩), (.str ⟨#[]⟩), (.int .i64 0)] [(0, 1, (.int .i64 80)), (1, 1, (.int .i64 11)), (2, 1, (.str ⟨#[105, 54, 52, 46]⟩)), (3, 1, (.str ⟨#[101, 113, 122, 32, 101, 113, 32, 110, 101, 32, 108, 116, 95, 115, 32, 108, 116, 95, 117, 32, 103, 116, 95, 115, 32, 103, 116, 95, 117, 32, 108, 101, 95, 115, 32, 108, 101, 95, 117, 32, 103, 101, 95, 115, 32, 103, 101, 95, 117]⟩)), (4, 1, (.int .i64 1))]) fun t25_24 =>
 M.bind (bd [(.int .i64 0), (.int .i64 0), (.str ⟨#[]⟩), (.str ⟨#[]⟩), (.int .i64 0)] [(0, 1, (.int .i64 91)), (1, 1, (.int .i64 6)), (2, 1, (.str ⟨#[102, 51, 50, 46]⟩)), (3, 1, (.str ⟨#[101, 113, 32, 110, 101, 32, 108, 116, 32, 103, 116, 32, 108, 101, 32, 103, 101]⟩)), (4, 1, (.int .i64 1))]) fun t26_25 =>
 M.bind (bd [(.int .i64 0), (.int .i64 0), (.str ⟨#[]⟩), (.str ⟨#[]⟩), (.int .i64 0)] [(0, 1, (.int .i64 97)), (1, 1, (.int .i64 6)), (2, 1, (.str ⟨#[102, 54, 52, 46]⟩)), (3, 1, (.str ⟨#[101, 113, 32, 110, 101, 32, 108, 116, 32, 103, 116, 32, 108, 101, 32, 103, 101]⟩)), (4, 1, (.int .i64 1))]) fun t27_26 =>
 M.bind (bd [(.int .i64 0), (.int .i64 0), (.str ⟨#[]⟩), (.str ⟨#[]⟩), (.int .i64 0)] [(0, 1, (.int .i64 103)), (1, 1, (.int .i64 18)), (2, 1, (.str ⟨#[105, 51, 50, 46]⟩)), (3, 1, (.str ⟨#[99, 108, 122, 32, 99, 116, 122, 32, 112, 111, 112, 99, 110, 116, 32, 97, 100, 100, 32, 115, 117, 98, 32, 109, 117, 108, 32, 100, 105, 118, 95, 115, 32, 100, 105, 118, 95, 117, 32, 114, 101, 109, 95, 115, 32, 114, 101, 109, 95, 117, 32, 97, 110, 100, 32, 111, 114, 32, 120, 111, 114, 32, 115, 104, 108, 32, 115, 104, 114, 95, 115, 32, 115, 104, 114, 95, 117, 32, 114, 111, 116, 108, 32, 114, 111, 116, 114]⟩)), (4, 1, (.int .i64 1))]) fun t28_27 =>
 M.bind (bd [(.int .i64 0), (.int .i64 0), (.str ⟨#[]⟩), (.str ⟨#[]⟩), (.int .i64 0)] [(0, 1, (.int .i64 121)), (1, 1, (.int .i64 18)), (2, 1, (.str ⟨#[105, 54, 52, 46]⟩)), (3, 1, (.str ⟨#[99, 108, 122, 32, 99, 116, 122, 32, 112, 111, 112, 99, 110, 116, 32, 97, 100, 100, 32, 115, 117, 98, 32, 109, 117, 108, 32, 100, 105, 118, 95, 115, 32, 100, 105, 118, 95, 117, 32, 114, 101, 109, 95, 115, 32, 114, 101, 109, 95, 117, 32, 97, 110, 100, 32, 111, 114, 32, 120, 111, 114, 32, 115, 104, 108, 32, 115, 104, 114, 95, 115, 32, 115, 104, 114, 95, 117, 32, 114, 111, 116, 108, 32, 114, 111, 116, 114]⟩)), (4, 1, (.int .i64 1))]) fun t29_28 =>
 M.bind (bd [(.int .i64 0), (.int .i64 0), (.str ⟨#[]⟩), (.str ⟨#[]⟩), (.int .i64 0)] [(0, 1, (.int .i64 139)), (1, 1, (.int .i64 14)), (2, 1, (.str ⟨#[102, 51, 50, 46]⟩)), (3, 1, (.str ⟨#[97, 98, 115, 32, 110, 101, 103, 32, 99, 101, 105, 108, 32, 102, 108, 111, 111, 114, 32, 116, 114, 117, 110, 99, 32, 110, 101, 97, 114, 101, 115, 116, 32, 115, 113, 114, 116, 32, 97, 100, 100, 32, 115, 117, 98, 32, 109, 117, 108, 32, 100, 105, 118, 32, 109, 105, 110, 32, 109, 97, 120, 32, 99, 111, 112, 121, 115, 105, 103, 110]⟩)), (4, 1, (.int .i64 1))]) fun t30_29 =>
 M.bind (bd [(.int .i64 0), (.int .i64 0), (.str ⟨#[]⟩), (.str ⟨#[]⟩), (.int .i64 0)] [(0, 1, (.int .i64 153)), (1, 1, (.int .i64 14)), (2, 1, (.str ⟨#[102, 54, 52, 46]⟩)), (3, 1, (.str ⟨#[97, 98, 115, 32, 110, 101, 103, 32, 99, 101, 105, 108, 32, 102, 108, 111, 111, 114, 32, 116, 114, 117, 110, 99, 32, 110, 101, 97, 114, 101, 115, 116, 32, 115, 113, 114, 116, 32, 97, 100, 100, 32, 115, 117, 98, 32, 109, 117, 108, 32, 100, 105, 118, 32, 109, 105, 110, 32, 109, 97, 120, 32, 99, 111, 112, 121, 115, 105, 103, 110]⟩)), (4, 1, (.int .i64 1))]) fun t31_30 =>
 M.bind (bd [(.int .i64 0), (.int .i64 0), (.str ⟨#[]⟩), (.str ⟨#[]⟩), (.int .i64 0)] [(0, 1, (.int .i64 167)), (1, 1, (.int .i64 5)), (2, 1, (.str ⟨#[105, 51, 50, 46]⟩)), (3, 1, (.str ⟨#[119, 114, 97, 112, 95, 105, 54, 52, 32, 116, 114, 117, 110, 99, 95, 102, 51, 50, 95, 115, 32, 116, 114, 117, 110, 99, 95, 102, 51, 50, 95, 117, 32, 116, 114, 117, 110, 99, 95, 102, 54, 52, 95, 115, 32, 116, 114, 117, 110, 99, 95, 102, 54, 52, 95, 117]⟩)), (4, 1, (.int .i64 1))]) fun t32_31 =>
 M.bind (bd [(.int .i64 0), (.int .i64 0), (.str ⟨#[]⟩), (.str ⟨#[]⟩), (.int .i64 0)] [(0, 1, (.int .i64 172)), (1, 1, (.int .i64 6)), (2, 1, (.str ⟨#[105, 54, 52, 46]⟩)), (3, 1, (.str ⟨#[101, 120, 116, 101, 110, 100, 95, 105, 51, 50, 95, 115, 32, 101, 120, 116, 101, 110, 100, 95, 105, 51, 50, 95, 117, 32, 116, 114, 117, 110, 99, 95, 102, 51, 50, 95, 115, 32, 116, 114, 117, 110, 99, 95, 102, 51, 50, 95, 117, 32, 116, 114, 117, 110, 99, 95, 102, 54, 52, 95, 115, 32, 116, 114, 117, 110, 99, 95, 102, 54, 52, 95, 117]⟩)), (4, 1, (.int .i64 1))]) fun t33_32 =>
 M.bind (bd [(.int .i64 0), (.int .i64 0), (.str ⟨#[]⟩), (.str ⟨#[]⟩), (.int .i64 0)] [(0, 1, (.int .i64 178)), (1, 1, (.int .i64 5)), (2, 1, (.str ⟨#[102, 51, 50, 46]⟩)), (3, 1, (.str ⟨#[99, 111, 110, 118, 101, 114, 116, 95, 105, 51, 50, 95, 115, 32, 99, 111, 110, 118, 101, 114, 116, 95, 105, 51, 50, 95, 117, 32, 99, 111, 110, 118, 101, 114, 116, 95, 105, 54, 52, 95, 115, 32, 99, 111, 110, 118, 101, 114, 116, 95, 105, 54, 52, 95, 117, 32, 100, 101, 109, 111, 116, 101, 95, 102, 54, 52]⟩)), (4, 1, (.int .i64 1))]) fun t34_33 =>
 M.bind (bd [(.int .i64 0), (.int .i64 0), (.str ⟨#[]⟩), (.str ⟨#[]⟩), (.int .i64 0)] [(0, 1, (.int .i64 183)), (1, 1, (.int .i64 5)), (2, 1, (.str ⟨#[102, 54, 52, 46]⟩)), (3, 1, (.str ⟨#[99, 111, 110, 118, 101, 114, 116, 95, 105, 51, 50, 95, 115, 32, 99, 111, 110, 118, 101, 114, 116, 95, 105, 51, 50, 95, 117, 32, 99, 111, 110, 118, 101, 114, 116, 95, 105, 54, 52, 95, 115, 32, 99, 111, 110, 118, 101, 114, 116, 95, 105, 54, 52, 95, 117, 32, 112, 114, 111, 109, 111, 116, 101, 95, 102, 51, 50]⟩)), (4, 1, (.int .i64 1))]) fun t35_34 =>
 M.bind (bd [(.int .i64 0), (.int .i64 0), (.str ⟨#[]⟩), (.str ⟨#[]⟩), (.int .i64 0)] [(0, 1, (.int .i64 188)), (1, 1, (.int .i64 4)), (2, 1, (.str ⟨#[]⟩)), (3, 1, (.str ⟨#[105, 51, 50, 46, 114, 101, 105, 110, 116, 101, 114, 112, 114, 101, 116, 95, 102, 51, 50, 32, 105, 54, 52, 46, 114, 101, 105, 110, 116, 101, 114, 112, 114, 101, 116, 95, 102, 54, 52, 32, 102, 51, 50, 46, 114, 101, 105, 110, 116, 101, 114, 112, 114, 101, 116, 95, 105, 51, 50, 32, 102, 54, 52, 46, 114, 101, 105, 110, 116, 101, 114, 112, 114, 101, 116, 95, 105, 54, 52]⟩)), (4, 1, (.int .i64 1))]) fun t36_35 =>
 M.bind (bd [(.int .i64 0), (.int .i64 0), (.str ⟨#[]⟩), (.str ⟨#[]⟩), (.int .i64 0)] [(0, 1, (.int .i64 192)), (1, 1, (.int .i64 5)), (2, 1, (.str ⟨#[]⟩)), (3, 1, (.str ⟨#[105, 51, 50, 46, 101, 120, 116, 101, 110, 100, 56, 95, 115, 32, 105, 51, 50, 46, 101, 120, 116, 101, 110, 100, 49, 54, 95, 115, 32, 105, 54, 52, 46, 101, 120, 116, 101, 110, 100, 56, 95, 115, 32, 105, 54, 52, 46, 101, 120, 116, 101, 110, 100, 49, 54, 95, 115, 32, 105, 54, 52, 46, 101, 120, 116, 101, 110, 100, 51, 50, 95, 115]⟩)), (4, 1, (.int .i64 1))]) fun t37_36 =>
 M.bind (bs true (some 5) [t1_0, t2_1, t3_2, t4_3, t5_4, t6_5, t7_6, t8_7, t9_8, t10_9, t11_10, t12_11, t13_12, t14_13, t15_14, t16_15, t17_16, t18_17, t19_18, t20_19, t21_20, t22_21, t23_22, t24_23, t25_24, t26_25, t27_26, t28_27, t29_28, t30_29, t31_30, t32_31, t33_32, t34_33, t35_34, t36_35, t37_36]) fun t38_37 =>
 resT t38_37 (M.pure t38_37)) := by
 rw [C, u03 _ _ rfl]; kernel_rfl
theorem ui6 : C u9p [] =
 trunc (M.bind (bd [(.int .i64 0), (.int .i64 0), (.str ⟨#[]⟩), (.str ⟨#[]⟩), (.int .i64 0)] [(0, 1, (.int .i64 208)), (1, 1, (.int .i64 1)), (2, 1, (.str ⟨#[]⟩)), (3, 1, (.str ⟨#[114, 101, 102, 46, 110, 117, 108, 108]⟩)), (4, 1, (.int .i64 13))]) fun t1_0 =>
 M.bind (bd [(.int .i64 0), (.int .i64 0), (.str ⟨#[]⟩), (.str ⟨#[]⟩), (.int .i64 0)] [(0, 1, (.int .i64 209)), (1, 1, (.int .i64 1)), (2, 1, (.str ⟨#[]⟩)), (3, 1, (.str ⟨#[114, 101, 102, 46, 105, 115, 95, 110, 117, 108, 108]⟩)), (4, 1, (.int .i64 1))]) fun t2_1 =>
 M.bind (bd [(.int .i64 0), (.int .i64 0), (.str ⟨#[]⟩), (.str ⟨#[]⟩), (.int .i64 0)] [(0, 1, (.int .i64 210)), (1, 1, (.int .i64 1)), (2, 1, (.str ⟨#[]⟩)), (3, 1, (.str ⟨#[114, 101, 102, 46, 102, 117, 110, 99]⟩)), (4, 1, (.int .i64 4))]) fun t3_2 =>
 M.bind (bd [(.int .i64 0), (.int .i64 0), (.str ⟨#[]⟩), (.str ⟨#[]⟩), (.int .i64 0)] [(0, 1, (.int .i64 211)), (1, 1, (.int .i64 2)), (2, 1, (.str ⟨#[]⟩)), (3, 1, (.str ⟨#[114, 101, 102, 46, 101, 113, 32, 114, 101, 102, 46, 97, 115, 95, 110, 111, 110, 95, 110, 117, 108, 108]⟩)), (4, 1, (.int .i64 1))]) fun t4_3 =>
 M.bind (bd [(.int .i64 0), (.int .i64 0), (.str ⟨#[]⟩), (.str ⟨#[]⟩), (.int .i64 0)] [(0, 1, (.int .i64 213)), (1, 1, (.int .i64 2)), (2, 1, (.str ⟨#[]⟩)), (3, 1, (.str ⟨#[98, 114, 95, 111, 110, 95, 110, 117, 108, 108, 32, 98, 114, 95, 111, 110, 95, 110, 111, 110, 95, 110, 117, 108, 108]⟩)), (4, 1, (.int .i64 4))]) fun t5_4 =>
 M.bind (bd [(.int .i64 0), (.int .i64 0), (.str ⟨#[]⟩), (.str ⟨#[]⟩), (.int .i64 0)] [(0, 1, (.int .i64 64256)), (1, 1, (.int .i64 2)), (2, 1, (.str ⟨#[]⟩)), (3, 1, (.str ⟨#[115, 116, 114, 117, 99, 116, 46, 110, 101, 119, 32, 115, 116, 114, 117, 99, 116, 46, 110, 101, 119, 95, 100, 101, 102, 97, 117, 108, 116]⟩)), (4, 1, (.int .i64 4))]) fun t6_5 =>
 M.bind (bd [(.int .i64 0), (.int .i64 0), (.str ⟨#[]⟩), (.str ⟨#[]⟩), (.int .i64 0)] [(0, 1, (.int .i64 64258)), (1, 1, (.int .i64 4)), (2, 1, (.str ⟨#[]⟩)), (3, 1, (.str ⟨#[115, 116, 114, 117, 99, 116, 46, 103, 101, 116, 32, 115, 116, 114, 117, 99, 116, 46, 103, 101, 116, 95, 115, 32, 115, 116, 114, 117, 99, 116, 46, 103, 101, 116, 95, 117, 32, 115, 116, 114, 117, 99, 116, 46, 115, 101, 116]⟩)), (4, 1, (.int .i64 5))]) fun t7_6 =>
 M.bind (bd [(.int .i64 0), (.int .i64 0), (.str ⟨#[]⟩), (.str ⟨#[]⟩), (.int .i64 0)] [(0, 1, (.int .i64 64262)), (1, 1, (.int .i64 2)), (2, 1, (.str ⟨#[]⟩)), (3, 1, (.str ⟨#[97, 114, 114, 97, 121, 46, 110, 101, 119, 32, 97, 114, 114, 97, 121, 46, 110, 101, 119, 95, 100, 101, 102, 97, 117, 108, 116]⟩)), (4, 1, (.int .i64 4))]) fun t8_7 =>
 M.bind (bd [(.int .i64 0), (.int .i64 0), (.str ⟨#[]⟩), (.str ⟨#[]⟩), (.int .i64 0)] [(0, 1, (.int .i64 64264)), (1, 1, (.int .i64 1)), (2, 1, (.str ⟨#[]⟩)), (3, 1, (.str ⟨#[97, 114, 114, 97, 121, 46, 110, 101, 119, 95, 102, 105, 120, 101, 100]⟩)), (4, 1, (.int .i64 16))]) fun t9_8 =>
 M.bind (bd [(.int .i64 0), (.int .i64 0), (.str ⟨#[]⟩), (.str ⟨#[]⟩), (.int .i64 0)] [(0, 1, (.int .i64 64265)), (1, 1, (.int .i64 2)), (2, 1, (.str ⟨#[]⟩)), (3, 1, (.str ⟨#[97, 114, 114, 97, 121, 46, 110, 101, 119, 95, 100, 97, 116, 97, 32, 97, 114, 114, 97, 121, 46, 110, 101, 119, 95, 101, 108, 101, 109]⟩)), (4, 1, (.int .i64 5))]) fun t10_9 =>
 M.bind (bd [(.int .i64 0), (.int .i64 0), (.str ⟨#[]⟩), (.str ⟨#[]⟩), (.int .i64 0)] [(0, 1, (.int .i64 64267)), (1, 1, (.int .i64 4)), (2, 1, (.str ⟨#[]⟩)), (3, 1, (.str ⟨#[97, 114, 114, 97, 121, 46, 103, 101, 116, 32, 97, 114, 114, 97, 121, 46, 103, 101, 116, 95, 115, 32, 97, 114, 114, 97, 121, 46, 103, 101, 116, 95, 117, 32, 97, 114, 114, 97, 121, 46, 115, 101, 116]⟩)), (4, 1, (.int .i64 4))]) fun t11_10 =>
 M.bind (bd [(.int .i64 0), (.int .i64 0), (.str ⟨#[]⟩), (.str ⟨#[]⟩), (.int .i64 0)] [(0, 1, (.int .i64 64271)), (1, 1, (.int .i64 1)), (2, 1, (.str ⟨#[]⟩)), (3, 1, (.str ⟨#[97, 114, 114, 97, 121, 46, 108, 101, 110]⟩)), (4, 1, (.int .i64 1))]) fun t12_11 =>
 M.bind (bd [(.int .i64 0), (.int .i64 0), (.str ⟨#[]⟩), (.str ⟨#[]⟩), (.int .i64 0)] [(0, 1, (.int .i64 64272)), (1, 1, (.int .i64 1)), (2, 1, (.str ⟨#[]⟩)), (3, 1, (.str ⟨#[97, 114, 114, 97, 121, 46, 102, 105, 108, 108]⟩)), (4, 1, (.int .i64 4))]) fun t13_12 =>
 M.bind (bd [(.int .i64 0), (.int .i64 0), (.str ⟨#[]⟩), (.str ⟨#[]⟩), (.int .i64 0)] [(0, 1, (.int .i64 64273)), (1, 1, (.int .i64 3)), (2, 1, (.str ⟨#[]⟩)), (3, 1, (.str ⟨#[97, 114, 114, 97, 121, 46, 99, 111, 112, 121, 32, 97, 114, 114, 97, 121, 46, 105, 110, 105, 116, 95, 100, 97, 116, 97, 32, 97, 114, 114, 97, 121, 46, 105, 110, 105, 116, 95, 101, 108, 101, 109]⟩)), (4, 1, (.int .i64 5))]) fun t14_13 =>
 M.bind (bd [(.int .i64 0), (.int .i64 0), (.str ⟨#[]⟩), (.str ⟨#[]⟩), (.int .i64 0)] [(0, 1, (.int .i64 64276)), (1, 1, (.int .i64 4)), (2, 1, (.str ⟨#[]⟩)), (3, 1, (.str ⟨#[114, 101, 102, 46, 116, 101, 115, 116, 32, 114, 101, 102, 46, 116, 101, 115, 116, 95, 110, 117, 108, 108, 32, 114, 101, 102, 46, 99, 97, 115, 116, 32, 114, 101, 102, 46, 99, 97, 115, 116, 95, 110, 117, 108, 108]⟩)), (4, 1, (.int .i64 14))]) fun t15_14 =>
 M.bind (bd [(.int .i64 0), (.int .i64 0), (.str ⟨#[]⟩), (.str ⟨#[]⟩), (.int .i64 0)] [(0, 1, (.int .i64 64280)), (1, 1, (.int .i64 2)), (2, 1, (.str ⟨#[]⟩)), (3, 1, (.str ⟨#[98, 114, 95, 111, 110, 95, 99, 97, 115, 116, 32, 98, 114, 95, 111, 110, 95, 99, 97, 115, 116, 95, 102, 97, 105, 108]⟩)), (4, 1, (.int .i64 15))]) fun t16_15 =>
 M.bind (bd [(.int .i64 0), (.int .i64 0), (.str ⟨#[]⟩), (.str ⟨#[]⟩), (.int .i64 0)] [(0, 1, (.int .i64 64282)), (1, 1, (.int .i64 5)), (2, 1, (.str ⟨#[]⟩)), (3, 1, (.str ⟨#[97, 110, 121, 46, 99, 111, 110, 118, 101, 114, 116, 95, 101, 120, 116, 101, 114, 110, 32, 101, 120, 116, 101, 114, 110, 46, 99, 111, 110, 118, 101, 114, 116, 95, 97, 110, 121, 32, 114, 101, 102, 46, 105, 51, 49, 32, 105, 51, 49, 46, 103, 101, 116, 95, 115, 32, 105, 51, 49, 46, 103, 101, 116, 95, 117]⟩)), (4, 1, (.int .i64 1))]) fun t17_16 =>
 M.bind (bd [(.int .i64 0), (.int .i64 0), (.str ⟨#[]⟩), (.str ⟨#[]⟩), (.int .i64 0)] [(0, 1, (.int .i64 64512)), (1, 1, (.int .i64 8)), (2, 1, (.str ⟨#[]⟩)), (3, 1, (.str ⟨#[105, 51, 50, 46, 116, 114, 117, 110, 99, 95, 115, 97, 116, 95, 102, 51, 50, 95, 115, 32, 105, 51, 50, 46, 116, 114, 117, 110, 99, 95, 115, 97, 116, 95, 102, 51, 50, 95, 117, 32, 105, 51, 50, 46, 116, 114, 117, 110, 99, 95, 115, 97, 116, 95, 102, 54, 52, 95, 115, 32, 105, 51, 50, 46, 116, 114, 117, 110, 99, 95, 115, 97, 116, 95, 102, 54, 52, 95, 117, 32, 105, 54, 52, 46, 116, 114, 117, 110, 99, 95, 115, 97, 116, 95, 102, 51, 50, 95, 115, 32, 105, 54, 52, 46, 116, 114, 117, 110, 99, 95, 115, 97, 116, 95, 102, 51, 50, 95, 117, 32, 105, 54, 52, 46, 116, 114, 117, 110, 99, 95, 115, 97, 116, 95, 102, 54, 52, 95, 115, 32, 105, 54, 52, 46, 116, 114, 117, 110, 99, 95, 115, 97, 116, 95, 102, 54, 52, 95, 117]⟩)), (4, 1, (.int .i64 1))]) fun t18_17 =>
 M.bind (bd [(.int .i64 0), (.int .i64 0), (.str ⟨#[]⟩), (.str ⟨#[]⟩), (.int .i64 0)] [(0, 1, (.int .i64 64520)), (1, 1, (.int .i64 1)), (2, 1, (.str ⟨#[]⟩)), (3, 1, (.str ⟨#[109, 101, 109, 111, 114, 121, 46, 105, 110, 105, 116]⟩)), (4, 1, (.int .i64 5))]) fun t19_18 =>
 M.bind (bd [(.int .i64 0), (.int .i64 0), (.str ⟨#[]⟩), (.str ⟨#[]⟩), (.int .i64 0)] [(0, 1, (.int .i64 64521)), (1, 1, (.int .i64 1)), (2, 1, (.str ⟨#[]⟩)), (3, 1, (.str ⟨#[100, 97, 116, 97, 46, 100, 114, 111, 112]⟩)), (4, 1, (.int .i64 4))]) fun t20_19 =>
 M.bind (bd [(.int .i64 0), (.int .i64 0), (.str ⟨#[]⟩), (.str ⟨#[]⟩), (.int .i64 0)] [(0, 1, (.int .i64 64522)), (1, 1, (.int .i64 1)), (2, 1, (.str ⟨#[]⟩)), (3, 1, (.str ⟨#[109, 101, 109, 111, 114, 121, 46, 99, 111, 112, 121]⟩)), (4, 1, (.int .i64 5))]) fun t21_20 =>
 M.bind (bd [(.int .i64 0), (.int .i64 0), (.str ⟨#[]⟩), (.str ⟨#[]⟩), (.int .i64 0)] [(0, 1, (.int .i64 64523)), (1, 1, (.int .i64 1)), (2, 1, (.str ⟨#[]⟩)), (3, 1, (.str ⟨#[109, 101, 109, 111, 114, 121, 46, 102, 105, 108, 108]⟩)), (4, 1, (.int .i64 4))]) fun t22_21 =>
 M.bind (bd [(.int .i64 0), (.int .i64 0), (.str ⟨#[]⟩), (.str ⟨#[]⟩), (.int .i64 0)] [(0, 1, (.int .i64 64524)), (1, 1, (.int .i64 1)), (2, 1, (.str ⟨#[]⟩)), (3, 1, (.str ⟨#[116, 97, 98, 108, 101, 46, 105, 110, 105, 116]⟩)), (4, 1, (.int .i64 5))]) fun t23_22 =>
 M.bind (bd [(.int .i64 0), (.int .i64 0), (.str ⟨#[]⟩), (.str ⟨#[]⟩), (.int .i64 0)] [(0, 1, (.int .i64 64525)), (1, 1, (.int .i64 1)), (2, 1, (.str ⟨#[]⟩)), (3, 1, (.str ⟨#[101, 108, 101, 109, 46, 100, 114, 111, 112]⟩)), (4, 1, (.int .i64 4))]) fun t24_23 =>
 M.bind (bd [(.int .i64 0), (.int .i64 0), (.str ⟨#[]⟩), (.str ⟨#[]⟩), (.int .i64 0)] [(0, 1, (.int .i64 64526)), (1, 1, (.int .i64 1)), (2, 1, (.str ⟨#[]⟩)), (3, 1, (.str ⟨#[116, 97, 98, 108, 101, 46, 99, 111, 112, 121]⟩)), (4, 1, (.int .i64 5))]) fun t25_24 =>
 M.bind (bd [(.int .i64 0), (.int .i64 0), (.str ⟨#[]⟩), (.str ⟨#[]⟩), (.int .i64 0)] [(0, 1, (.int .i64 64527)), (1, 1, (.int .i64 3)), (2, 1, (.str ⟨#[]⟩)), (3, 1, (.str ⟨#[116, 97, 98, 108, 101, 46, 103, 114, 111, 119, 32, 116, 97, 98, 108, 101, 46, 115, 105, 122, 101, 32, 116, 97, 98, 108, 101, 46, 102, 105, 108, 108]⟩)), (4, 1, (.int .i64 4))]) fun t26_25 =>
 M.bind (bs true (some 5) [t1_0, t2_1, t3_2, t4_3, t5_4, t6_5, t7_6, t8_7, t9_8, t10_9, t11_10, t12_11, t13_12, t14_13, t15_14, t16_15, t17_16, t18_17, t19_18, t20_19, t21_20, t22_21, t23_22, t24_23, t25_24, t26_25]) fun t27_26 =>
 resT t27_26 (M.pure t27_26)) := by
 rw [C, u03 _ _ rfl]; kernel_rfl
end Go.Proofs.YthidcpkcfoldmaaGreat.Pi.Q
