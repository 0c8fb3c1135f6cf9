/- What the law rests on, part 3 of 5: a reading of the program's code over told data, and what it comes to. -/
import Derived.Test.YtofbbijagbpicaaLe1
namespace Go.Proofs.Ytofbbijagbpicaa.Pi
set_option linter.unusedVariables false
set_option linter.unusedSimpArgs false
variable {α β : Type} {H : Heap} {k j : IntKind} {a b n m : Int} {x y : PV} {ek : EqK}
def resT (v : PV) (m : M PV) : M PV := bif isTup v then M.fail else m
def hget (H : Heap) (id : Nat) : Option Box := H[id]?
def hset (H : Heap) (id : Nat) (b : Box) : Heap := H.set id b
def hadd (H : Heap) (L : List Box) : Heap := H ++ L
def hcut (H : Heap) (n : Nat) : Heap := H.take n
abbrev hlen (H : Heap) : Nat := List.length H
def run (m : M α) (H : Heap) : Option (Out α) := m H
def bindR (r : Option (Out α)) (f : α → M β) : Option (Out β) :=
  match r with
  | none => none
  | some (.ok v H) => run (f v) H
  | some (.pan v H) => some (.pan v H)
def truncR (H : Heap) (r : Option (Out PV)) : Option (Out PV) :=
  match r with
  | none => none
  | some (.ok v H') => some (.ok v (bif v.low H.length then hcut H' H.length else H'))
  | some (.pan v H') => bif v.low H.length then some (.pan v (hcut H' H.length)) else none
noncomputable def nbR (H : Heap) (r : Option (Out α)) (f : α → M β) : Option (Out β) := nb (fun _ => r) f H
@[congr] theorem bindR_congr {r r' : Option (Out α)} {f : α → M β} (h : r = r') : bindR r f = bindR r' f := by rw [h]
@[congr] theorem nbR_congr {r r' : Option (Out α)} {f : α → M β} (h : r = r') : nbR H r f = nbR H r' f := by rw [h]
@[congr] theorem condM_congr {c c' : PV} {x y : M α} (h : c = c') : condM c x y = condM c' x y := by rw [h]
@[congr] theorem guardM_congr {c c' : Bool} {x : M α} (h : c = c') : guardM c x = guardM c' x := by rw [h]
@[congr] theorem resT_congr {c c' : PV} {x : M PV} (h : c = c') : resT c x = resT c' x := by rw [h]
theorem run_bind {m : M α} {f : α → M β} : run (M.bind m f) H = bindR (run m H) f := nrfl rfl
theorem bindR_ok {f : α → M β} {v : α} {H : Heap} : bindR (some (.ok v H)) f = run (f v) H := nrfl rfl
theorem bindR_none {f : α → M β} : bindR none f = none := nrfl rfl
theorem bindR_pan {f : α → M β} {v : PV} {H : Heap} : bindR (some (.pan v H)) f = some (.pan v H) := nrfl rfl
theorem bindR_ite {c : Prop} [Decidable c] {r r' : Option (Out α)} {f : α → M β} : bindR (if c then r else r') f = if c then bindR r f else bindR r' f := by split <;> rfl
theorem run_nb {m : M α} {f : α → M β} : run (nb m f) H = nbR H (run m H) f := nrfl rfl
theorem nbR_ok {f : α → M β} {v : α} : nbR H (some (.ok v H)) f = run (f v) H := by simp [nbR, nb, run]
theorem nbR_ite {c : Prop} [Decidable c] {r r' : Option (Out α)} {f : α → M β} : nbR H (if c then r else r') f = if c then nbR H r f else nbR H r' f := by split <;> rfl
theorem run_trunc {m : M PV} : run (trunc m) H = truncR H (run m H) := nrfl rfl
theorem truncR_ite {c : Prop} [Decidable c] {r r' : Option (Out PV)} : truncR H (if c then r else r') = if c then truncR H r else truncR H r' := by split <;> rfl
theorem truncR_none : truncR H none = none := nrfl rfl
theorem truncR_ok {v : PV} {H' : Heap} : truncR H (some (.ok v H')) = some (.ok v (if v.low H.length = true then hcut H' H.length else H')) := by
  show some (Out.ok v (bif v.low H.length then hcut H' H.length else H')) = _
  cases v.low H.length <;> rfl
theorem truncR_pan {v : PV} {H' : Heap} : truncR H (some (.pan v H')) = if v.low H.length = true then some (.pan v (hcut H' H.length)) else none := by
  show (bif v.low H.length then some (Out.pan v (hcut H' H.length)) else none) = _
  cases v.low H.length <;> rfl
theorem run_guard {c : Bool} {m : M α} : run (guardM c m) H = if c = true then run m H else none := by cases c <;> rfl
theorem run_resT {v : PV} {m : M PV} : run (resT v m) H = if isTup v = true then none else run m H := by unfold resT; cases isTup v <;> rfl
theorem run_cond {c : Bool} {x y : M α} : run (condM (.bool c) x y) H = if c = true then run x H else run y H := by cases c <;> rfl
theorem run_gdT {c : Bool} {m : M PV} : run (gd (.bool c) true m) H = if c = true then run m H else some (.ok (.tup []) H) := by cases c <;> rfl
theorem run_gdF {c : Bool} {m : M PV} : run (gd (.bool c) false m) H = if c = true then some (.ok (.tup []) H) else run m H := by cases c <;> rfl
theorem strip_skip : strip (.tup []) = .tup [] := nrfl rfl
theorem run_gdS {b : Bool} {m : M PV} : run (gd (.tup []) b m) H = some (.ok (.tup []) H) := nrfl rfl
theorem run_pick {c : Bool} : run (pick (.bool c) x y) H = if c = true then some (.ok (strip x) H) else some (.ok (strip y) H) := by cases c <;> rfl
theorem run_pure {v : α} : run (M.pure v) H = some (.ok v H) := nrfl rfl
theorem run_pan {v : PV} : run (M.pan v : M α) H = some (.pan v H) := nrfl rfl
theorem run_fail : run (M.fail : M α) H = none := nrfl rfl
theorem run_al {cs : List PV} : run (al cs) H = if cs.all isCell = true then some (.ok (.ptr H.length 0) (hadd H [.cells cs])) else none := by unfold run al; cases cs.all isCell <;> rfl
theorem run_bx {n : Nat} {v : PV} : run (bx n v) H = if (v.cells.map stripC).length = n ∧ lowL (H.length + 1) (v.cells.map stripC) = true ∧ v.cells.all isCell = true then some (.ok (.ptr H.length 0) (hadd H [.cells (v.cells.map stripC)])) else none := by
  unfold run bx
  cases h1 : ((v.cells.map stripC).length == n) <;> cases h2 : lowL (H.length + 1) (v.cells.map stripC) <;> cases h3 : v.cells.all isCell <;> simp_all [hadd]
theorem beq_eq_decide' (a b : Nat) : (a == b) = decide (a = b) := by rw [Bool.eq_iff_iff]; simp
def ldB (n : Option Nat) (mv : Bool) (id o : Nat) (H : Heap) : Option Box → Option (Out PV)
  | some (.cells cs) => match n with
      | none => match cs[o]? with
        | some v => bif mv then some (.ok v (hset H id (.cells (cs.set o (stripC v))))) else some (.ok (stripC v) H)
        | none => none
      | some n => bif decide (o + n ≤ cs.length) then some (.ok (.agg (((cs.drop o).take n).map stripC)) H) else none
  | _ => none
theorem run_ld {n : Option Nat} {mv : Bool} {id o : Nat} : run (ld n mv (.ptr id o)) H = ldB n mv id o H (hget H id) := by
  unfold run ld ldB
  rfl
def stB (n : Nat) (mv : Bool) (id o : Nat) (v : PV) (H : Heap) : Option Box → Option (Out PV)
  | some (.cells cs) => bif v.cells.length == n && (decide (o + n ≤ cs.length) && (lowL (id + 1) v.cells && v.cells.all isCell)) then
        some (.ok .undef (hset H id (.cells (fillAt o (bif mv then v.cells else v.cells.map stripC) cs))))
      else none
  | _ => none
theorem run_st {n : Nat} {mv : Bool} {id o : Nat} {v : PV} : run (st n mv (.ptr id o) v) H = stB n mv id o v H (hget H id) := by
  unfold run st stB
  rfl
theorem ldB_some {n : Nat} {mv : Bool} {id o : Nat} {cs : List PV} : ldB (some n) mv id o H (some (.cells cs)) = if o + n ≤ cs.length then some (.ok (.agg (((cs.drop o).take n).map stripC)) H) else none := by
  show (bif decide (o + n ≤ cs.length) then some (Out.ok (PV.agg (((cs.drop o).take n).map stripC)) H) else none) = _
  by_cases h : o + n ≤ cs.length <;> simp [h]
def nth : List α → Nat → Option α
  | [], _ => none
  | v :: _, 0 => some v
  | _ :: r, n + 1 => nth r n
theorem nth_zero {v : α} {r : List α} : nth (v :: r) 0 = some v := nrfl rfl
theorem nth_succ {v : α} {r : List α} {n : Nat} : nth (v :: r) (n + 1) = nth r n := nrfl rfl
theorem nth_is : ∀ (l : List α) (n : Nat), l[n]? = nth l n
  | [], _ => rfl
  | _ :: _, 0 => rfl
  | _ :: r, n + 1 => nth_is r n
def ldTR (H : Heap) (id : Nat) (cs : List PV) (o : Nat) : Option PV → Option (Out PV)
  | some v => some (.ok v (hset H id (.cells (cs.set o (stripC v)))))
  | none => none
def ldFR (H : Heap) : Option PV → Option (Out PV)
  | some v => some (.ok (stripC v) H)
  | none => none
theorem ldTR_some {id : Nat} {cs : List PV} {o : Nat} {v : PV} : ldTR H id cs o (some v) = some (.ok v (hset H id (.cells (cs.set o (stripC v))))) := nrfl rfl
theorem ldFR_some {v : PV} : ldFR H (some v) = some (.ok (stripC v) H) := nrfl rfl
theorem ldB_t {id o : Nat} {cs : List PV} : ldB none true id o H (some (.cells cs)) = ldTR H id cs o (nth cs o) := by
  rw [← nth_is]; rfl
theorem ldB_f {id o : Nat} {cs : List PV} : ldB none false id o H (some (.cells cs)) = ldFR H (nth cs o) := by
  rw [← nth_is]; rfl
theorem stB_is {n : Nat} {mv : Bool} {id o : Nat} {v : PV} {cs : List PV} :
    stB n mv id o v H (some (.cells cs)) = if v.cells.length = n ∧ o + n ≤ cs.length ∧ lowL (id + 1) v.cells = true ∧ v.cells.all isCell = true then some (.ok .undef (hset H id (.cells (fillAt o (if mv = true then v.cells else v.cells.map stripC) cs)))) else none := by
  show (bif v.cells.length == n && (decide (o + n ≤ cs.length) && (lowL (id + 1) v.cells && v.cells.all isCell)) then some (Out.ok PV.undef (hset H id (.cells (fillAt o (bif mv then v.cells else v.cells.map stripC) cs)))) else none) = _
  cases hb : v.cells.all isCell <;> cases hc : lowL (id + 1) v.cells <;> by_cases h1 : v.cells.length = n <;> by_cases h2 : o + n ≤ cs.length <;> cases mv <;> simp [h1, h2, beq_eq_decide' (v.cells.length) n]
theorem run_ldE0 {mv : Bool} {cs : List PV} {c : PV} : run (ld none mv (.elem (c :: cs))) H = some (.ok c H) := nrfl rfl
theorem run_ldEn {mv : Bool} {n : Nat} {cs : List PV} : run (ld (some n) mv (.elem cs)) H = if n ≤ cs.length then some (.ok (.agg (cs.take n)) H) else none := by
  show (bif decide (n ≤ cs.length) then M.pure (PV.agg (cs.take n)) else M.fail) H = _
  by_cases h : n ≤ cs.length <;> simp [h, M.pure, M.fail]
theorem get_loc {L : List Box} (k : Nat) : hget (hadd H L) (H.length + k) = nth L k := by unfold hget hadd; rw [List.getElem?_append_right (Nat.le_add_right _ _), Nat.add_sub_cancel_left, nth_is]
theorem get_loc0 {L : List Box} : hget (hadd H L) H.length = nth L 0 := get_loc 0
theorem get_old {L : List Box} {i : Nat} (h : i < H.length) : hget (hadd H L) i = hget H i := List.getElem?_append_left h
theorem set_loc {L : List Box} {x : Box} (k : Nat) : hset (hadd H L) (H.length + k) x = hadd H (L.set k x) := by unfold hset hadd; rw [List.set_append_right _ _ (Nat.le_add_right _ _), Nat.add_sub_cancel_left]
theorem set_loc0 {L : List Box} {x : Box} : hset (hadd H L) H.length x = hadd H (L.set 0 x) := set_loc 0
theorem set_old {L : List Box} {i : Nat} {x : Box} (h : i < H.length) : hset (hadd H L) i x = hadd (hset H i x) L := List.set_append_left _ _ h
theorem get_set {i : Nat} {x : Box} (h : i < H.length) : hget (hset H i x) i = some x := by unfold hget hset; rw [List.getElem?_set_self h]
theorem get_set_ne {i k : Nat} {x : Box} (h : i ≠ k) : hget (hset H i x) k = hget H k := List.getElem?_set_ne h
theorem set_set {i : Nat} {x y : Box} : hset (hset H i x) i y = hset H i y := List.set_set _
theorem add_add {L K : List Box} : hadd (hadd H L) K = hadd H (L ++ K) := List.append_assoc _ _ _
theorem cut_add {A L : List Box} {n : Nat} (h : n = A.length) : hcut (hadd A L) n = A := by subst h; simp [hcut, hadd]
theorem cut_all {A : List Box} {n : Nat} (h : n = A.length) : hcut A n = A := by subst h; simp [hcut]
theorem cut0 : hcut H H.length = H := cut_all rfl
theorem cut1 {i : Nat} {x : Box} : hcut (hset H i x) H.length = hset H i x := cut_all (by unfold hset; simp)
theorem cut2 {i j : Nat} {x y : Box} : hcut (hset (hset H i x) j y) H.length = hset (hset H i x) j y := cut_all (by unfold hset; simp)
theorem cutA0 {L : List Box} : hcut (hadd H L) H.length = H := cut_add rfl
theorem cutA1 {L : List Box} {i : Nat} {x : Box} : hcut (hadd (hset H i x) L) H.length = hset H i x := cut_add (by unfold hset; simp)
theorem cutA2 {L : List Box} {i j : Nat} {x y : Box} : hcut (hadd (hset (hset H i x) j y) L) H.length = hset (hset H i x) j y := cut_add (by unfold hset; simp)
theorem len_add {L : List Box} : List.length (hadd H L) = H.length + L.length := List.length_append
theorem len_set {i : Nat} {x : Box} : List.length (hset H i x) = H.length := List.length_set
theorem get_loc1 {L : List Box} {i : Nat} {y : Box} (k : Nat) : hget (hadd (hset H i y) L) (H.length + k) = nth L k := by
  have := get_loc (H := hset H i y) (L := L) k
  rwa [len_set] at this
theorem get_loc01 {L : List Box} {i : Nat} {y : Box} : hget (hadd (hset H i y) L) H.length = nth L 0 := get_loc1 0
theorem set_loc1 {L : List Box} {i : Nat} {x y : Box} (k : Nat) : hset (hadd (hset H i y) L) (H.length + k) x = hadd (hset H i y) (L.set k x) := by
  have := set_loc (H := hset H i y) (L := L) (x := x) k
  rwa [len_set] at this
theorem set_loc01 {L : List Box} {i : Nat} {x y : Box} : hset (hadd (hset H i y) L) H.length x = hadd (hset H i y) (L.set 0 x) := set_loc1 0
theorem get_old1 {L : List Box} {i j : Nat} {y : Box} (h : i < H.length) : hget (hadd (hset H j y) L) i = hget (hset H j y) i := get_old (by rw [len_set]; exact h)
theorem set_old1 {L : List Box} {i j : Nat} {x y : Box} (h : i < H.length) : hset (hadd (hset H j y) L) i x = hadd (hset (hset H j y) i x) L := set_old (by rw [len_set]; exact h)
theorem get_lt {i : Nat} {x : Box} (h : hget H i = some x) : i < H.length := (List.getElem?_eq_some_iff.mp h).1
theorem set_self {i : Nat} {x : Box} (h : hget H i = some x) : hset H i x = H := by
  obtain ⟨h1, h2⟩ := List.getElem?_eq_some_iff.mp h
  unfold hset; subst h2; exact List.set_getElem_self h1
theorem w_i64 (h : -9223372036854775808 ≤ n ∧ n ≤ 9223372036854775807) : IntKind.i64.wrap n = n := by rw [IntKind.wrap_i64]; omega
theorem w_u64 (h : 0 ≤ n ∧ n ≤ 18446744073709551615) : IntKind.u64.wrap n = n := by simp only [IntKind.wrap, IntKind.signed, IntKind.bits]; simp; omega
theorem w_u8 (h : 0 ≤ n ∧ n ≤ 255) : IntKind.u8.wrap n = n := by rw [IntKind.wrap_u8]; omega
theorem w_u32 (h : 0 ≤ n ∧ n ≤ 4294967295) : IntKind.u32.wrap n = n := by rw [IntKind.wrap_u32]; omega
theorem w_i32 (h : -2147483648 ≤ n ∧ n ≤ 2147483647) : IntKind.i32.wrap n = n := by rw [IntKind.wrap_i32]; omega
theorem run_shl (h : 0 ≤ b) : bi .shl ek (.int k a) (.int j b) = M.pure (.int k (k.wrap (a * 2 ^ shiftN k b))) := by
  have : ¬ b < 0 := by omega
  simp [bi, this]
theorem run_shr (h : 0 ≤ b) : bi .shr ek (.int k a) (.int j b) = M.pure (.int k (a.fdiv (2 ^ shiftN k b))) := by
  have : ¬ b < 0 := by omega
  simp [bi, this]
theorem run_quo (h : b ≠ 0) : bi .quo ek (.int k a) (.int k b) = M.pure (.int k (k.wrap (a.tdiv b))) := by
  have h' : (b == 0) = false := by simpa using h
  cases k <;> simp [bi, intOp, h']
theorem run_rem (h : b ≠ 0) : bi .rem ek (.int k a) (.int k b) = M.pure (.int k (a.tmod b)) := by
  have h' : (b == 0) = false := by simpa using h
  cases k <;> simp [bi, intOp, h']
theorem run_and : bi .and ek (.int k a) (.int k b) = M.pure (.int k (k.wrap (BitVec.ofInt k.bits a &&& BitVec.ofInt k.bits b).toNat)) := by cases k <;> rfl
theorem run_or : bi .or ek (.int k a) (.int k b) = M.pure (.int k (k.wrap (BitVec.ofInt k.bits a ||| BitVec.ofInt k.bits b).toNat)) := by cases k <;> rfl
def iaR (H : Heap) : Option PV → Option (Out PV)
  | some x => some (.ok (.elem x.cells) H)
  | none => none
theorem iaR_some {x : PV} : iaR H (some x) = some (.ok (.elem x.cells) H) := nrfl rfl
theorem run_iaS {o z : Bool} {sz : Nat} {xs : List PV} (h0 : 0 ≤ n) : run (iaS sz (.slice o z sz xs) (.int k n)) H = iaR H xs[n.toNat]? := by
  unfold iaS iaR run
  have h' : decide (0 ≤ n) = true := by simpa using h0
  simp only [h', beq_self_eq_true, Bool.and_self, cond_true, rtPanic, M.fail, M.pure]
  split <;> rename_i h <;> simp only [h] <;> rfl
theorem run_fa {off id o : Nat} : fa off (.ptr id o) = M.pure (.ptr id (o + off)) := nrfl rfl
theorem run_faE {off : Nat} {cs : List PV} : fa off (.elem cs) = M.pure (.elem (cs.drop off)) := nrfl rfl
theorem callV_fn {P : Program} {C : CallT} {f : FuncId} {u v args : List PV} : callV P C (.fn f u v) args = C f (u ++ args ++ v) := nrfl rfl
theorem nc_ptr {P : Program} {i o : Nat} : nc P (.ptr i o) = M.pure (.ptr i o) := nrfl rfl
theorem nc_elem {P : Program} {cs : List PV} : nc P (.elem cs) = M.pure (.elem cs) := nrfl rfl
theorem nc_nil {P : Program} : nc P .nil = M.pan (nilDeref P) := nrfl rfl
theorem run_mi {t : TypeId} {v : PV} : run (mi t v) H = if isVal v = true then some (.ok (.iface t (stripC v)) H) else none := by
  unfold run mi
  cases isVal v <;> rfl
theorem run_pn {t : TypeId} {v : PV} : pn (.iface t v) = M.pan (.iface t v) := nrfl rfl
theorem run_cvI {o : Bool} : cv (.int k) o (.int j n) = M.pure (.int k (k.wrap n)) := nrfl rfl
theorem run_ex0 {v : PV} {r : List PV} : ex 0 (.tup (v :: r)) = M.pure v := nrfl rfl
theorem run_ex1 {u v : PV} {r : List PV} : ex 1 (.tup (u :: v :: r)) = M.pure v := nrfl rfl
theorem run_ex2 {u v x : PV} {r : List PV} : ex 2 (.tup (u :: v :: x :: r)) = M.pure x := nrfl rfl
theorem tupDrop0 {v : PV} {r : List PV} : tupDrop 0 (.tup (v :: r)) = .tup (stripC v :: r) := nrfl rfl
theorem tupDrop1 {u v : PV} {r : List PV} : tupDrop 1 (.tup (u :: v :: r)) = .tup (u :: stripC v :: r) := nrfl rfl
theorem tupDrop2 {u v x : PV} {r : List PV} : tupDrop 2 (.tup (u :: v :: x :: r)) = .tup (u :: v :: stripC x :: r) := nrfl rfl
section
variable {c d : Bool} {s : ByteArray} {i o : Nat} {cs ds : List PV} {N : Nat}
theorem isTup_int : isTup (.int k n) = false := nrfl rfl
theorem isCell_int : isCell (.int k n) = true := nrfl rfl
theorem isVal_int : isVal (.int k n) = true := nrfl rfl
theorem isPtr_int : isPtr (.int k n) = false := nrfl rfl
theorem cells_int : PV.cells (.int k n) = [(.int k n)] := nrfl rfl
theorem low_int : PV.low N (.int k n) = true := by simp only [PV.low]
theorem isTup_bool : isTup (.bool c) = false := nrfl rfl
theorem isCell_bool : isCell (.bool c) = true := nrfl rfl
theorem isVal_bool : isVal (.bool c) = true := nrfl rfl
theorem isPtr_bool : isPtr (.bool c) = false := nrfl rfl
theorem cells_bool : PV.cells (.bool c) = [(.bool c)] := nrfl rfl
theorem low_bool : PV.low N (.bool c) = true := by simp only [PV.low]
theorem isTup_str : isTup (.str s) = false := nrfl rfl
theorem isCell_str : isCell (.str s) = true := nrfl rfl
theorem isVal_str : isVal (.str s) = true := nrfl rfl
theorem isPtr_str : isPtr (.str s) = false := nrfl rfl
theorem cells_str : PV.cells (.str s) = [(.str s)] := nrfl rfl
theorem low_str : PV.low N (.str s) = true := by simp only [PV.low]
theorem isTup_nil : isTup .nil = false := nrfl rfl
theorem isCell_nil : isCell .nil = true := nrfl rfl
theorem isVal_nil : isVal .nil = true := nrfl rfl
theorem isPtr_nil : isPtr .nil = false := nrfl rfl
theorem cells_nil : PV.cells .nil = [.nil] := nrfl rfl
theorem low_nil : PV.low N .nil = true := by simp only [PV.low]
theorem isTup_ptr : isTup (.ptr i o) = false := nrfl rfl
theorem isCell_ptr : isCell (.ptr i o) = true := nrfl rfl
theorem isVal_ptr : isVal (.ptr i o) = true := nrfl rfl
theorem isPtr_ptr : isPtr (.ptr i o) = true := nrfl rfl
theorem cells_ptr : PV.cells (.ptr i o) = [(.ptr i o)] := nrfl rfl
theorem low_ptr : PV.low N (.ptr i o) = decide (i < N) := by simp only [PV.low]
theorem isTup_elem : isTup (.elem cs) = false := nrfl rfl
theorem isCell_elem : isCell (.elem cs) = true := nrfl rfl
theorem isVal_elem : isVal (.elem cs) = true := nrfl rfl
theorem isPtr_elem : isPtr (.elem cs) = false := nrfl rfl
theorem cells_elem : PV.cells (.elem cs) = [(.elem cs)] := nrfl rfl
theorem low_elem : PV.low N (.elem cs) = true := by simp only [PV.low]
theorem isTup_slice : isTup (.slice c d i cs) = false := nrfl rfl
theorem isCell_slice : isCell (.slice c d i cs) = true := nrfl rfl
theorem isVal_slice : isVal (.slice c d i cs) = true := nrfl rfl
theorem isPtr_slice : isPtr (.slice c d i cs) = false := nrfl rfl
theorem cells_slice : PV.cells (.slice c d i cs) = [(.slice c d i cs)] := nrfl rfl
theorem low_slice : PV.low N (.slice c d i cs) = true := by simp only [PV.low]
theorem isTup_fn : isTup (.fn i cs ds) = false := nrfl rfl
theorem isCell_fn : isCell (.fn i cs ds) = true := nrfl rfl
theorem isVal_fn : isVal (.fn i cs ds) = true := nrfl rfl
theorem isPtr_fn : isPtr (.fn i cs ds) = false := nrfl rfl
theorem cells_fn : PV.cells (.fn i cs ds) = [(.fn i cs ds)] := nrfl rfl
theorem low_fn : PV.low N (.fn i cs ds) = (lowL N cs && lowL N ds) := by simp only [PV.low]
theorem isTup_nilfn : isTup .nilfn = false := nrfl rfl
theorem isCell_nilfn : isCell .nilfn = true := nrfl rfl
theorem isVal_nilfn : isVal .nilfn = true := nrfl rfl
theorem isPtr_nilfn : isPtr .nilfn = false := nrfl rfl
theorem cells_nilfn : PV.cells .nilfn = [.nilfn] := nrfl rfl
theorem low_nilfn : PV.low N .nilfn = true := by simp only [PV.low]
theorem isTup_iface : isTup (.iface i x) = false := nrfl rfl
theorem isCell_iface : isCell (.iface i x) = true := nrfl rfl
theorem isVal_iface : isVal (.iface i x) = true := nrfl rfl
theorem isPtr_iface : isPtr (.iface i x) = false := nrfl rfl
theorem cells_iface : PV.cells (.iface i x) = [(.iface i x)] := nrfl rfl
theorem low_iface : PV.low N (.iface i x) = x.low N := by simp only [PV.low]
theorem isTup_niliface : isTup .niliface = false := nrfl rfl
theorem isCell_niliface : isCell .niliface = true := nrfl rfl
theorem isVal_niliface : isVal .niliface = true := nrfl rfl
theorem isPtr_niliface : isPtr .niliface = false := nrfl rfl
theorem cells_niliface : PV.cells .niliface = [.niliface] := nrfl rfl
theorem low_niliface : PV.low N .niliface = true := by simp only [PV.low]
theorem isTup_agg : isTup (.agg cs) = false := nrfl rfl
theorem isCell_agg : isCell (.agg cs) = false := nrfl rfl
theorem isVal_agg : isVal (.agg cs) = true := nrfl rfl
theorem isPtr_agg : isPtr (.agg cs) = false := nrfl rfl
theorem cells_agg : PV.cells (.agg cs) = cs := nrfl rfl
theorem low_agg : PV.low N (.agg cs) = lowL N cs := by simp only [PV.low]
theorem isTup_tup : isTup (.tup cs) = true := nrfl rfl
theorem isCell_tup : isCell (.tup cs) = false := nrfl rfl
theorem isVal_tup : isVal (.tup cs) = false := nrfl rfl
theorem isPtr_tup : isPtr (.tup cs) = false := nrfl rfl
theorem cells_tup : PV.cells (.tup cs) = [(.tup cs)] := nrfl rfl
theorem low_tup : PV.low N (.tup cs) = lowL N cs := by simp only [PV.low]
theorem isTup_undef : isTup .undef = false := nrfl rfl
theorem isCell_undef : isCell .undef = false := nrfl rfl
theorem isVal_undef : isVal .undef = false := nrfl rfl
theorem isPtr_undef : isPtr .undef = false := nrfl rfl
theorem cells_undef : PV.cells .undef = [.undef] := nrfl rfl
theorem low_undef : PV.low N .undef = true := by simp only [PV.low]
end
theorem lowL_nil {n : Nat} : lowL n [] = true := by simp only [lowL]
theorem lowL_cons {n : Nat} {v : PV} {r : List PV} : lowL n (v :: r) = (v.low n && lowL n r) := by simp only [lowL]
def bdR (H : Heap) : Option (List PV) → Option (Out PV)
  | some cs => some (.ok (.agg cs) H)
  | none => none
theorem bdR_some {cs : List PV} : bdR H (some cs) = some (.ok (.agg cs) H) := nrfl rfl
theorem run_bd {zero : List PV} {parts : List (Nat × Nat × PV)} : run (bd zero parts) H = bdR H (fillAll parts zero) := by
  unfold run bd bdR
  cases fillAll parts zero <;> rfl
theorem fillAll_nil {cs : List PV} : fillAll [] cs = some cs := nrfl rfl
theorem fillAll_cons {off size : Nat} {v : PV} {r : List (Nat × Nat × PV)} {cs : List PV} : fillAll ((off, size, v) :: r) cs = if v.cells.length = size ∧ off + size ≤ cs.length ∧ v.cells.all isCell = true then fillAll r (fillAt off (v.cells.map stripC) cs) else none := by
  show (bif v.cells.length == size && (decide (off + size ≤ cs.length) && v.cells.all isCell) then fillAll r (fillAt off (v.cells.map stripC) cs) else none) = _
  cases hb : v.cells.all isCell <;> by_cases h1 : v.cells.length = size <;> by_cases h2 : off + size ≤ cs.length <;> simp [h1, h2, hb, beq_eq_decide' (v.cells.length) size]
theorem fillAt_is {off : Nat} {vs cs : List PV} : fillAt off vs cs = cs.take off ++ vs ++ cs.drop (off + vs.length) := nrfl rfl
def bsR (own : Bool) (a : Option Nat) (vs : List PV) (H : Heap) : Option (Out PV) := if vs.all (isFlatElem a) = true then some (.ok (.slice own false (a.getD 1) vs) H) else none
theorem run_bs {own : Bool} {a : Option Nat} {vs : List PV} : run (bs own a vs) H = bsR own a (vs.map stripC) H := by
  unfold run bs bsR
  cases ((vs.map stripC).all (isFlatElem a)) <;> rfl
def noPanR : Option (Out PV) → Option (Out PV)
  | some (.ok v H) => some (.ok v H)
  | _ => none
theorem run_noPan {m : M PV} : run (noPan m) H = noPanR (run m H) := by
  unfold run noPan noPanR
  cases m H with
  | none => rfl
  | some q => cases q <;> rfl
theorem noPanR_ok {v : PV} {H : Heap} : noPanR (some (.ok v H)) = some (.ok v H) := nrfl rfl
theorem noPanR_pan {v : PV} {H : Heap} : noPanR (some (.pan v H)) = none := nrfl rfl
theorem noPanR_none : noPanR none = none := nrfl rfl
theorem noPanR_ite {c : Prop} [Decidable c] {r r' : Option (Out PV)} : noPanR (if c then r else r') = if c then noPanR r else noPanR r' := by split <;> rfl
noncomputable def chkR (r r' : Option (Out α)) (x : M β) (H : Heap) : Option (Out β) := run (chk (fun _ => r) (fun _ => r') x) H
@[congr] theorem chkR_congr {r r' s s' : Option (Out α)} {x : M β} (h : r = s) (h' : r' = s') : chkR r r' x H = chkR s s' x H := by rw [h, h']
theorem run_chk {m m' : M α} {x : M β} : run (chk m m' x) H = chkR (run m H) (run m' H) x H := nrfl rfl
theorem chkR_ok {a : α} {K : Heap} {x : M β} : chkR (some (.ok a K)) (some (.ok a K)) x H = run x H := by
  simp [chkR, run, chk]
theorem tld_ptr {i o : Nat} : tld (.ptr i o) = .ld i := nrfl rfl
theorem tst_ptr {i o : Nat} : tst (.ptr i o) = .st i := nrfl rfl
theorem tld_elem {cs : List PV} : tld (.elem cs) = .no := nrfl rfl
theorem clash_no {x : Touch} : clash .no x = false := nrfl rfl
theorem clash_no' {y : Touch} : clash y .no = false := by cases y <;> rfl
theorem clash_ld_ld {i j : Nat} : clash (.ld i) (.ld j) = false := nrfl rfl
theorem clash_ld_st {i j : Nat} : clash (.ld j) (.st i) = (i == j) := nrfl rfl
theorem clash_st_ld {i j : Nat} : clash (.st j) (.ld i) = (i == j) := nrfl rfl
theorem clash_st_st {i j : Nat} : clash (.st j) (.st i) = (i == j) := nrfl rfl
theorem clash_any_ld {i : Nat} : clash .any (.ld i) = false := nrfl rfl
theorem clash_ld_any {i : Nat} : clash (.ld i) .any = false := nrfl rfl
theorem clash_any_any : clash .any .any = false := nrfl rfl
def defR (CD : Option PV → CallT) (f : FuncId) (args : List PV) (res : M PV) : Option (Out PV) → Option (Out PV)
  | none => none
  | some (.ok _ H) => bindR (run (CD none f args) H) (fun _ => res)
  | some (.pan v H) => bindR (run (CD (some v) f args) H) (fun r => match r with | .tup [] => res | _ => M.fail)
theorem run_defer {CD : Option PV → CallT} {f : FuncId} {u v args : List PV} {rest res : M PV} : run (deferM CD (.fn f u v) args rest res) H = defR CD f (u ++ args ++ v) res (run rest H) := by
  unfold run deferM defR
  dsimp only
  cases rest H with
  | none => rfl
  | some q => cases q <;> rfl
@[congr] theorem defR_congr {CD : Option PV → CallT} {f : FuncId} {args : List PV} {res : M PV} {r r' : Option (Out PV)} (h : r = r') : defR CD f args res r = defR CD f args res r' := by rw [h]
theorem defR_none {CD : Option PV → CallT} {f : FuncId} {args : List PV} {res : M PV} : defR CD f args res none = none := nrfl rfl
theorem defR_ok {CD : Option PV → CallT} {f : FuncId} {args : List PV} {res : M PV} {v : PV} : defR CD f args res (some (.ok v H)) = bindR (run (CD none f args) H) (fun _ => res) := nrfl rfl
theorem defR_pan {CD : Option PV → CallT} {f : FuncId} {args : List PV} {res : M PV} {v : PV} : defR CD f args res (some (.pan v H)) = bindR (run (CD (some v) f args) H) (fun r => match r with | .tup [] => res | _ => M.fail) := nrfl rfl
theorem defR_ite {CD : Option PV → CallT} {f : FuncId} {args : List PV} {res : M PV} {c : Prop} [Decidable c] {r r' : Option (Out PV)} : defR CD f args res (if c then r else r') = if c then defR CD f args res r else defR CD f args res r' := by split <;> rfl
end Go.Proofs.Ytofbbijagbpicaa.Pi
namespace Go.Proofs.Ytofbbijagbpicaa.Pi
set_option linter.unusedVariables false
set_option linter.unusedSimpArgs false
def byt (c : UInt8) : PV := .int .u8 c.toNat
abbrev bytes (b : List UInt8) : List PV := b.map byt
abbrev BS (z : Bool) (b : List UInt8) : PV := .slice false z 1 (bytes b)
theorem byt_get {b : List UInt8} {k : Nat} (h : k < b.length) : (bytes b)[k]? = some (byt b[k]) := by simp [bytes, h]
theorem byt_lt (c : UInt8) : c.toNat < 256 := c.toNat_lt
theorem or_join (n s x : Nat) (hn : n < 2 ^ s) : n ||| (x * 2 ^ s) = n + x * 2 ^ s := by
  rw [Nat.or_comm, Nat.mul_comm, ← Nat.two_pow_add_eq_or_of_lt hn, Nat.add_comm]
theorem bv_or {w a b : Nat} (ha : a < 2 ^ w) (hb : b < 2 ^ w) : (BitVec.ofInt w (a : Int) ||| BitVec.ofInt w (b : Int)).toNat = a ||| b := by
  rw [BitVec.toNat_or, BitVec.ofInt_natCast, BitVec.ofInt_natCast, BitVec.toNat_ofNat, BitVec.toNat_ofNat, Nat.mod_eq_of_lt ha, Nat.mod_eq_of_lt hb]
theorem bv_and {w a b : Nat} (ha : a < 2 ^ w) (hb : b < 2 ^ w) : (BitVec.ofInt w (a : Int) &&& BitVec.ofInt w (b : Int)).toNat = a &&& b := by
  rw [BitVec.toNat_and, BitVec.ofInt_natCast, BitVec.ofInt_natCast, BitVec.toNat_ofNat, BitVec.toNat_ofNat, Nat.mod_eq_of_lt ha, Nat.mod_eq_of_lt hb]
theorem and127 (a : Nat) (ha : a < 256) : IntKind.u8.wrap ((BitVec.ofInt IntKind.u8.bits (a : Int) &&& BitVec.ofInt IntKind.u8.bits 127).toNat : Int) = ((a % 128 : Nat) : Int) := by
  have e : (127 : Int) = ((127 : Nat) : Int) := rfl
  have h := bv_and (w := 8) (a := a) (b := 127) ha (by decide)
  rw [show IntKind.u8.bits = 8 from rfl, e, h, Nat.and_two_pow_sub_one_eq_mod a 7]
  exact w_u8 (by omega)
theorem shiftN_u64 {s : Nat} (h : s ≤ 64) : shiftN .u64 (s : Int) = s := by unfold shiftN; rw [Int.toNat_natCast]; exact Nat.min_eq_left h
theorem shiftN_i64 {s : Nat} (h : s ≤ 64) : shiftN .i64 (s : Int) = s := by unfold shiftN; rw [Int.toNat_natCast]; exact Nat.min_eq_left h
theorem shiftN_u8 {s : Nat} (h : s ≤ 8) : shiftN .u8 (s : Int) = s := by unfold shiftN; rw [Int.toNat_natCast]; exact Nat.min_eq_left h
theorem shr_u8 (c : Nat) {s : Nat} (h : s ≤ 8) : (c : Int).fdiv (2 ^ shiftN .u8 (s : Int)) = ((c / 2 ^ s : Nat) : Int) := by
  rw [shiftN_u8 h, Int.fdiv_eq_ediv_of_nonneg _ (Int.le_of_lt (Int.pow_pos (by omega)))]
  simp
theorem join_u64 {n x s : Nat} (hs : s ≤ 63) (hn : n < 2 ^ s) (hx : x * 2 ^ s < 2 ^ 64) :
    IntKind.u64.wrap ((BitVec.ofInt IntKind.u64.bits (n : Int) ||| BitVec.ofInt IntKind.u64.bits (IntKind.u64.wrap ((x : Int) * 2 ^ shiftN .u64 (s : Int)))).toNat : Int) = ((n + x * 2 ^ s : Nat) : Int) ∧ n + x * 2 ^ s < 2 ^ 64 := by
  have e1 : ((x : Int) * 2 ^ shiftN .u64 (s : Int)) = ((x * 2 ^ s : Nat) : Int) := by rw [shiftN_u64 (by omega)]; simp
  have hle : 2 ^ s ≤ 2 ^ 63 := Nat.pow_le_pow_right (by omega) hs
  have hlt : n + x * 2 ^ s < 2 ^ 64 := by
    have e : (2 : Nat) ^ 64 = 2 ^ (64 - s) * 2 ^ s := by rw [← Nat.pow_add, Nat.sub_add_cancel (by omega)]
    rw [e] at hx ⊢
    have hx2 : x < 2 ^ (64 - s) := Nat.lt_of_mul_lt_mul_right hx
    have : (x + 1) * 2 ^ s ≤ 2 ^ (64 - s) * 2 ^ s := Nat.mul_le_mul_right _ hx2
    rw [Nat.add_mul] at this
    omega
  refine ⟨?_, hlt⟩
  rw [e1, w_u64 (n := ((x * 2 ^ s : Nat) : Int)) (by omega), show IntKind.u64.bits = 64 from rfl, bv_or (w := 64) (by omega) hx, or_join n s x hn]
  exact w_u64 (by omega)
inductive Rs (α : Type) where
  | ok (v : α) (p : Nat)
  | err (p e : Nat)
def lebU (b : List UInt8) (B e : Nat) : Nat → Nat → Nat → Nat → Rs Nat
  | 0, _, _, p => .err p 4
  | f + 1, i, n, p =>
    if p < e then
      let c := (b.getD p 0).toNat
      if B < 7 * i + 7 ∧ c / 2 ^ (B - 7 * i) ≠ 0 then .err p 4
      else if c < 128 then .ok (n + c * 2 ^ (7 * i)) (p + 1)
      else lebU b B e f (i + 1) (n + c % 128 * 2 ^ (7 * i)) (p + 1)
    else .err e 3
end Go.Proofs.Ytofbbijagbpicaa.Pi
namespace Go.Proofs.Ytofbbijagbpicaa.Pi
set_option linter.unusedVariables false
set_option linter.unusedSimpArgs false
theorem wi (x : Int) : IntKind.i64.wrap x = (x + 9223372036854775808) % 18446744073709551616 - 9223372036854775808 := by rw [IntKind.wrap_i64]
theorem wi_emod (x : Int) : IntKind.i64.wrap x % 18446744073709551616 = x % 18446744073709551616 := by rw [wi]; omega
theorem wi_congr {x y : Int} (h : x % 18446744073709551616 = y % 18446744073709551616) : IntKind.i64.wrap x = IntKind.i64.wrap y := by rw [wi, wi]; omega
theorem ofInt_emod (a : Int) : BitVec.ofInt 64 (a % 18446744073709551616) = BitVec.ofInt 64 a := by
  apply BitVec.eq_of_toNat_eq
  rw [BitVec.toNat_ofInt, BitVec.toNat_ofInt]
  have e : ((2 ^ 64 : Nat) : Int) = 18446744073709551616 := rfl
  rw [e, Int.emod_emod_of_dvd _ (Int.dvd_refl _)]
def or64 (a b : Int) : Int := ((BitVec.ofInt 64 a ||| BitVec.ofInt 64 b).toNat : Int)
theorem or64_emod (a b : Int) : or64 (a % 18446744073709551616) (b % 18446744073709551616) = or64 a b := by unfold or64; rw [ofInt_emod, ofInt_emod]
theorem pow64 {s : Nat} (h : s ≤ 64) : (18446744073709551616 : Int) = 2 ^ (64 - s) * 2 ^ s := by
  rw [← Int.pow_add, Nat.sub_add_cancel h]; rfl
theorem shifted_mod (x : Int) {s : Nat} (h : s ≤ 64) : (x * 2 ^ s) % 18446744073709551616 = (x % 2 ^ (64 - s)) * 2 ^ s := by
  rw [pow64 h, Int.mul_comm x, Int.mul_comm (2 ^ (64 - s)), Int.mul_emod_mul_of_pos _ _ (Int.pow_pos (by omega)), Int.mul_comm]
theorem or_digit {N x : Int} {s : Nat} (hs : s ≤ 63) (h0 : 0 ≤ N) (h1 : N < 2 ^ s) : IntKind.i64.wrap (or64 (IntKind.i64.wrap N) (IntKind.i64.wrap (x * 2 ^ s))) = IntKind.i64.wrap (N + x * 2 ^ s) := by
  have hq : (0 : Int) < 2 ^ s := Int.pow_pos (by omega)
  have hr : (0 : Int) < 2 ^ (64 - s) := Int.pow_pos (by omega)
  have hp := pow64 (show s ≤ 64 by omega)
  have hle : (2 : Int) ^ s ≤ 18446744073709551616 := by
    have h4 : 1 * (2 : Int) ^ s ≤ 2 ^ (64 - s) * 2 ^ s := Int.mul_le_mul_of_nonneg_right (by omega) (by omega)
    omega
  have hm0 := Int.emod_nonneg x (show (2 : Int) ^ (64 - s) ≠ 0 by omega)
  have hm1 := Int.emod_lt_of_pos x hr
  have hN : N % 18446744073709551616 = N := by omega
  obtain ⟨a, rfl⟩ := Int.eq_ofNat_of_zero_le h0
  obtain ⟨m, hm⟩ := Int.eq_ofNat_of_zero_le hm0
  have ha : a < 2 ^ s := by
    have h2 : ((a : Nat) : Int) < ((2 ^ s : Nat) : Int) := by simpa using h1
    exact Int.ofNat_lt.1 h2
  have e2 : ((m : Int) * 2 ^ s) = ((m * 2 ^ s : Nat) : Int) := by simp
  have hb : m * 2 ^ s < 2 ^ 64 := by
    have h2 : (x % 2 ^ (64 - s) + 1) * 2 ^ s ≤ 2 ^ (64 - s) * 2 ^ s := Int.mul_le_mul_of_nonneg_right (by omega) (by omega)
    rw [← hp, Int.add_mul, hm, e2] at h2
    omega
  have hj := join_u64 (n := a) (x := m) hs ha hb
  rw [← or64_emod, wi_emod, wi_emod, hN, shifted_mod x (by omega), hm, e2]
  unfold or64
  have hsz : ((2 : Nat) ^ s) ≤ 2 ^ 64 := Nat.pow_le_pow_right (by omega) (by omega)
  rw [bv_or (w := 64) (by omega) hb, or_join a s m ha]
  apply wi_congr
  rw [Int.add_emod, shifted_mod x (by omega), hm, e2]
  have := hj.2
  omega
def okS (h c : Nat) : Prop := c < 128 ∧ (c / 2 ^ (h - 1) = 0 ∨ c / 2 ^ (h - 1) = 2 ^ (8 - h) - 1)
instance (h c : Nat) : Decidable (okS h c) := by unfold okS; infer_instance
theorem i8_wrap (n : Int) : IntKind.i8.wrap n = (n + 128) % 256 - 128 := by
  have h : IntKind.i8.wrap n = if 128 ≤ n % 256 then n % 256 - 256 else n % 256 := by
    simp [IntKind.wrap, IntKind.bits, IntKind.signed]
  rw [h]; split <;> omega
theorem u8_wrap (n : Int) : IntKind.u8.wrap n = n % 256 := by
  simp [IntKind.wrap, IntKind.bits, IntKind.signed]
theorem top_ok {h : Nat} (hh : h = 1 ∨ h = 4 ∨ h = 5) {c : Nat} (c1 : c < 128) :
    ((IntKind.i8.wrap (IntKind.u8.wrap ((c : Int) * 2 ^ shiftN .u8 1))).fdiv (2 ^ shiftN .i8 (h : Int)) = 0 ∨ (IntKind.i8.wrap (IntKind.u8.wrap ((c : Int) * 2 ^ shiftN .u8 1))).fdiv (2 ^ shiftN .i8 (h : Int)) = -1) ↔ okS h c := by
  have e1 : ((c : Int) * 2 ^ shiftN .u8 1) = (c : Int) * 2 := rfl
  have e2 : shiftN .i8 (h : Int) = h := by unfold shiftN; rw [Int.toNat_natCast]; exact Nat.min_eq_left (by show h ≤ 8; omega)
  rw [i8_wrap, u8_wrap, e1, e2, Int.fdiv_eq_ediv_of_nonneg _ (Int.le_of_lt (Int.pow_pos (by omega)))]
  unfold okS
  rcases hh with rfl | rfl | rfl
  · show ((((c * 2 : Int) % 256 + 128) % 256 - 128) / 2 ^ 1 = 0 ∨ (((c * 2 : Int) % 256 + 128) % 256 - 128) / 2 ^ 1 = -1) ↔ (c < 128 ∧ (c / 2 ^ 0 = 0 ∨ c / 2 ^ 0 = 2 ^ 7 - 1))
    omega
  · show ((((c * 2 : Int) % 256 + 128) % 256 - 128) / 2 ^ 4 = 0 ∨ (((c * 2 : Int) % 256 + 128) % 256 - 128) / 2 ^ 4 = -1) ↔ (c < 128 ∧ (c / 2 ^ 3 = 0 ∨ c / 2 ^ 3 = 2 ^ 4 - 1))
    omega
  · show ((((c * 2 : Int) % 256 + 128) % 256 - 128) / 2 ^ 5 = 0 ∨ (((c * 2 : Int) % 256 + 128) % 256 - 128) / 2 ^ 5 = -1) ↔ (c < 128 ∧ (c / 2 ^ 4 = 0 ∨ c / 2 ^ 4 = 2 ^ 3 - 1))
    omega
theorem and64 (a : Nat) (ha : a < 128) : IntKind.u8.wrap ((BitVec.ofInt IntKind.u8.bits (a : Int) &&& BitVec.ofInt IntKind.u8.bits 64).toNat : Int) = if a < 64 then 0 else 64 := by
  have e : (64 : Int) = ((64 : Nat) : Int) := rfl
  have h := bv_and (w := 8) (a := a) (b := 64) (by omega) (by decide)
  have h2 : ∀ y, y < 128 → y &&& 64 = if y < 64 then 0 else 64 := by decide +kernel
  rw [show IntKind.u8.bits = 8 from rfl, e, h, h2 a ha]
  split <;> rfl
def lastS (c s : Nat) : Int := (if c < 64 then (c : Int) else (c : Int) - 128) * 2 ^ s
def lebS (b : List UInt8) (B e : Nat) : Nat → Nat → Nat → Nat → Rs Int
  | 0, _, _, p => .err p 4
  | f + 1, i, n, p =>
    if p < e then
      let c := (b.getD p 0).toNat
      if B < 7 * i + 7 ∧ ¬ okS (B - 7 * i) c then .err p 4
      else if c < 128 then .ok (IntKind.i64.wrap (n + lastS c (7 * i))) (p + 1)
      else lebS b B e f (i + 1) (n + c % 128 * 2 ^ (7 * i)) (p + 1)
    else .err e 3
def rdS (b : List UInt8) (B e p : Nat) : Rs Int := lebS b B e 10 0 0 p
end Go.Proofs.Ytofbbijagbpicaa.Pi
namespace Go.Proofs.Ytofbbijagbpicaa.Pi
open Go.ChangeShapes Go.WideShapes
set_option linter.unusedVariables false
set_option linter.unusedSimpArgs false
def imOf (w : World) (b o : Nat) : Option Value := w.cell? ⟨b, o, none⟩
theorem imOf_ok (w : World) : ∀ b o v, imOf w b o = some v → w.cell? ⟨b, o, none⟩ = some v := fun _ _ _ h => h
def wordsOf (zs : List Int) : List UInt8 := zs.map fun n => UInt8.ofNat n.toNat
theorem wf_u8 {n : Int} (h : (Lit.int .u8 n).wf = true) : 0 ≤ n ∧ n < 256 := by
  simp [Lit.wf, IntKind.min, IntKind.max, IntKind.bits, IntKind.signed] at h
  omega
theorem spot_none {P : Program} {w : World} {base : Nat} {t e : TypeId} {a : Addr} {len cap : Nat} (ht : P.underlying t = some (.slice e)) (h : Value.okWide P w .any base t (.slice (some a) len cap)) : a.spot = none := by
  unfold Value.okWide at h
  simp only [ht] at h
  unfold Cell.okWide at h
  simp only [ht] at h
  unfold Cell.ok at h
  simp only [ht] at h
  exact h.2.2.2.1
theorem open_bytes {H : Type} {enc : TypeId × Value → H} {P : Program} {W : World} {base : Nat} {spare : Nat → Bool} {held : Bool} {t e : TypeId} {v : Value} {d : DataW H} {ps : List MemPlace} {ts : List TypeId} {ds : List (DataW H)} {j : Nat}
    (hsz : (DataW.weightsEach P ts ds).all (· ≤ reachBytes) = true) (htj : ts[j]? = some t) (hd : ds[j]? = some d) (hu : P.underlying t = some (.slice e)) (he : P.underlying e = some (.int .u8)) (hc : P.cellsOf e = 1) (hB : P.bytesOf e = 1)
    (hok : Value.okWide P W .any base t v) {b0 : Nat} (h : DataW.Trod enc P W b0 spare held t v d ps) :
    ∃ z b, b.length ≤ 140737488351232 ∧ Rep [] (imOf W) (BS z b) v ∧ ∀ x ∈ ps, x.block < W.heap.size := by
  obtain ⟨a, len, cap, rfl⟩ := okWide_slice hu hok
  have k := h
  have lt : ∀ x ∈ ps, x.block < W.heap.size := by obtain ⟨m, hm⟩ := k; exact DataW.trod_lt m _ _ _ hm
  obtain ⟨fuel, hf⟩ := h
  rcases open_ints hu he hc hf with ⟨hcs, _⟩ | ⟨x, l, c, zs, hcs, _, hl, hm, hz, hx, hcell, hwz⟩
  · simp [Value.cells] at hcs
    obtain ⟨rfl, rfl, rfl⟩ := hcs
    exact ⟨true, [], by simp, .flat (.snil 1), lt⟩
  · simp [Value.cells] at hcs
    obtain ⟨rfl, rfl, rfl⟩ := hcs
    have hsp := spot_none hu hok
    obtain ⟨g, o, sp⟩ := x
    obtain rfl : sp = none := hsp
    have hlz : len ≤ zs.length := by rw [hz]; split <;> omega
    refine ⟨false, wordsOf (zs.take len), ?_, ?_, lt⟩
    · obtain ⟨hx, _⟩ := Prod.mk.inj hx
      subst hx
      have z := sized_slice hsz htj hd hu
      rw [hB] at z
      have h1 : (lits (H := H) .u8 (zs.take len)).length + (lits (H := H) .u8 (zs.drop len)).length = zs.length := by
        simp [lits]
        omega
      rw [h1] at z
      simp only [wordsOf, List.length_map, List.length_take]
      have : reachBytes = 140737488351232 := rfl
      omega
    · have hln : (bytes (wordsOf (zs.take len))).length = len := by simp [bytes, wordsOf, hlz]
      have hget : ∀ (i : Nat) (x : PV), (bytes (wordsOf (zs.take len)))[i]? = some x → i < len ∧ x = .int .u8 (zs.getD i 0) := by
        intro i x hx
        have hi : i < len := by
          have := (List.getElem?_eq_some_iff.mp hx).1
          omega
        refine ⟨hi, ?_⟩
        have hiz : i < zs.length := by omega
        have e1 : (bytes (wordsOf (zs.take len)))[i]? = some (byt (UInt8.ofNat (zs[i]).toNat)) := by
          simp [bytes, wordsOf, hi, hiz]
        rw [e1] at hx
        obtain rfl := Option.some.inj hx
        have hw := wf_u8 (hwz _ (List.getElem_mem hiz))
        have e2 : zs.getD i 0 = zs[i] := by simp [List.getD, hiz]
        rw [e2]
        unfold byt
        congr 1
        have : (UInt8.ofNat (zs[i]).toNat).toNat = (zs[i]).toNat := by
          rw [UInt8.toNat_ofNat']
          omega
        rw [this]
        omega
      have hadd : ∀ i : Nat, i < len → W.cell? ⟨g, o + i, none⟩ = some (.int .u8 (zs.getD i 0)) := by
        intro i hi
        have := hcell i (by omega)
        unfold Addr.add at this
        split at this
        · rename_i h0
          subst h0
          simpa using this
        · exact this
      have hrep := RepF.slice (im := imOf W) (g := g) (o := o) (cap := cap) (sz := 1) (xs := bytes (wordsOf (zs.take len))) (fun i _ => .int .u8 (zs.getD i 0)) (by omega)
        (fun i x hx => by rw [(hget i x hx).2]; rfl)
        (fun i x j c hx hc => by
          obtain ⟨hi, rfl⟩ := hget i x hx
          have hj : j = 0 := by
            have := (List.getElem?_eq_some_iff.mp hc).1
            simp [PV.cells] at this
            omega
          subst hj
          unfold imOf
          simpa using hadd i hi)
        (fun i x j c hx hc => by
          obtain ⟨hi, rfl⟩ := hget i x hx
          have hj : j = 0 := by
            have := (List.getElem?_eq_some_iff.mp hc).1
            simp [PV.cells] at this
            omega
          subst hj
          simp [PV.cells] at hc
          subst hc
          exact .int _ _)
      rw [hln] at hrep
      exact .flat hrep
theorem args_two {im : Nat → Nat → Option Value} {p q : PV} {v u : Value} (h : Rep [] im p v) (hs : strip p = p) (k : Rep [] im q u) (ks : strip q = q) : ArgsOk (gOf im) [p, q] #[v, u] :=
  ⟨rfl, fun j x y hx hy => by
    match j, hx, hy with
    | 0, hx, hy => simp at hx hy; subst hx hy; exact ⟨.one (.pure h), hs⟩
    | 1, hx, hy => simp at hx hy; subst hx hy; exact ⟨.one (.pure k), ks⟩⟩
end Go.Proofs.Ytofbbijagbpicaa.Pi
namespace Go.Proofs.Ytofbbijagbpicaa.Pi
set_option linter.unusedVariables false
set_option maxRecDepth 100000
theorem goDown : type_of% (And.intro (And.intro (And.intro (And.intro (And.intro @run_bind @bindR_ok) (And.intro @bindR_none @bindR_pan)) (And.intro (And.intro @bindR_ite
    @run_nb) (And.intro @nbR_ok @nbR_ite))) (And.intro (And.intro (And.intro @run_trunc @truncR_ite) (And.intro @truncR_none @truncR_ok)) (And.intro
    (And.intro @truncR_pan @run_guard) (And.intro @run_resT (And.intro @run_cond @run_gdT))))) (And.intro (And.intro (And.intro (And.intro @run_gdF
    @run_gdS) (And.intro @run_pure @run_pan)) (And.intro (And.intro @run_fail @run_noPan) (And.intro @noPanR_ok @noPanR_pan))) (And.intro (And.intro
    (And.intro @noPanR_none @noPanR_ite) (And.intro @run_chk @chkR_ok)) (And.intro (And.intro @run_defer @defR_none) (And.intro @defR_ok (And.intro
    @defR_pan @defR_ite)))))) := (And.intro (And.intro (And.intro (And.intro (And.intro @run_bind @bindR_ok) (And.intro @bindR_none @bindR_pan)) (And.intro (And.intro @bindR_ite
    @run_nb) (And.intro @nbR_ok @nbR_ite))) (And.intro (And.intro (And.intro @run_trunc @truncR_ite) (And.intro @truncR_none @truncR_ok)) (And.intro
    (And.intro @truncR_pan @run_guard) (And.intro @run_resT (And.intro @run_cond @run_gdT))))) (And.intro (And.intro (And.intro (And.intro @run_gdF
    @run_gdS) (And.intro @run_pure @run_pan)) (And.intro (And.intro @run_fail @run_noPan) (And.intro @noPanR_ok @noPanR_pan))) (And.intro (And.intro
    (And.intro @noPanR_none @noPanR_ite) (And.intro @run_chk @chkR_ok)) (And.intro (And.intro @run_defer @defR_none) (And.intro @defR_ok (And.intro
    @defR_pan @defR_ite))))))
theorem goUp : type_of% (And.intro (And.intro (And.intro (And.intro (And.intro (And.intro (And.intro @strip_skip (And.intro @run_pick @run_al)) (And.intro (And.intro @run_bx
    @run_ld) (And.intro @run_st @ldB_some))) (And.intro (And.intro (And.intro @nth_zero @nth_succ) (And.intro @ldTR_some @ldFR_some)) (And.intro
    (And.intro @ldB_t @ldB_f) (And.intro @stB_is @run_ldE0)))) (And.intro (And.intro (And.intro @run_ldEn (And.intro @get_loc @get_loc0)) (And.intro
    (And.intro @get_old @set_loc) (And.intro @set_loc0 @set_old))) (And.intro (And.intro (And.intro @get_set @set_set) (And.intro @add_add @cut0))
    (And.intro (And.intro @cut1 @cut2) (And.intro @cutA0 @cutA1))))) (And.intro (And.intro (And.intro (And.intro @cutA2 (And.intro @len_add @len_set))
    (And.intro (And.intro @w_i64 @w_u64) (And.intro @w_u8 @w_u32))) (And.intro (And.intro (And.intro @w_i32 @run_quo) (And.intro @run_rem @iaR_some))
    (And.intro (And.intro @run_iaS @run_fa) (And.intro @run_faE @callV_fn)))) (And.intro (And.intro (And.intro @nc_ptr (And.intro @nc_elem @nc_nil))
    (And.intro (And.intro @run_mi @run_pn) (And.intro @run_cvI @run_ex0))) (And.intro (And.intro (And.intro @run_ex1 @run_ex2) (And.intro @tupDrop0
    @tupDrop1)) (And.intro (And.intro @tupDrop2 @isTup_int) (And.intro @isCell_int @isVal_int)))))) (And.intro (And.intro (And.intro (And.intro
    (And.intro @isPtr_int (And.intro @cells_int @low_int)) (And.intro (And.intro @isTup_bool @isCell_bool) (And.intro @isVal_bool @isPtr_bool)))
    (And.intro (And.intro (And.intro @cells_bool @low_bool) (And.intro @isTup_str @isCell_str)) (And.intro (And.intro @isVal_str @isPtr_str) (And.intro
    @cells_str @low_str)))) (And.intro (And.intro (And.intro @isTup_nil (And.intro @isCell_nil @isVal_nil)) (And.intro (And.intro @isPtr_nil
    @cells_nil) (And.intro @low_nil @isTup_ptr))) (And.intro (And.intro (And.intro @isCell_ptr @isVal_ptr) (And.intro @isPtr_ptr @cells_ptr))
    (And.intro (And.intro @low_ptr @isTup_elem) (And.intro @isCell_elem @isVal_elem))))) (And.intro (And.intro (And.intro (And.intro @isPtr_elem
    (And.intro @cells_elem @low_elem)) (And.intro (And.intro @isTup_slice @isCell_slice) (And.intro @isVal_slice @isPtr_slice))) (And.intro (And.intro
    (And.intro @cells_slice @low_slice) (And.intro @isTup_fn @isCell_fn)) (And.intro (And.intro @isVal_fn @isPtr_fn) (And.intro @cells_fn @low_fn))))
    (And.intro (And.intro (And.intro @isTup_nilfn (And.intro @isCell_nilfn @isVal_nilfn)) (And.intro (And.intro @isPtr_nilfn @cells_nilfn) (And.intro
    @low_nilfn @isTup_iface))) (And.intro (And.intro (And.intro @isCell_iface @isVal_iface) (And.intro @isPtr_iface @cells_iface)) (And.intro
    (And.intro @low_iface @isTup_niliface) (And.intro @isCell_niliface @isVal_niliface))))))) (And.intro (And.intro (And.intro (And.intro (And.intro
    (And.intro @isPtr_niliface (And.intro @cells_niliface @low_niliface)) (And.intro (And.intro @isTup_agg @isCell_agg) (And.intro @isVal_agg
    @isPtr_agg))) (And.intro (And.intro (And.intro @cells_agg @low_agg) (And.intro @isTup_tup @isCell_tup)) (And.intro (And.intro @isVal_tup
    @isPtr_tup) (And.intro @cells_tup @low_tup)))) (And.intro (And.intro (And.intro @isTup_undef (And.intro @isCell_undef @isVal_undef)) (And.intro
    (And.intro @isPtr_undef @cells_undef) (And.intro @low_undef @lowL_nil))) (And.intro (And.intro (And.intro @lowL_cons @bdR_some) (And.intro @run_bd
    @fillAll_nil)) (And.intro (And.intro @fillAll_cons @fillAt_is) (And.intro @run_bs @tld_ptr))))) (And.intro (And.intro (And.intro (And.intro
    @tst_ptr (And.intro @tld_elem @clash_no)) (And.intro (And.intro @clash_no' @clash_ld_ld) (And.intro @clash_ld_st @clash_st_ld))) (And.intro
    (And.intro (And.intro @clash_st_st @clash_any_ld) (And.intro @clash_ld_any @clash_any_any)) (And.intro (And.intro @strip_int @strip_bool)
    (And.intro @strip_str @strip_slice)))) (And.intro (And.intro (And.intro @strip_ptr (And.intro @strip_agg @strip_elem)) (And.intro (And.intro
    @strip_nil @strip_niliface) (And.intro @strip_iface @strip_fn))) (And.intro (And.intro (And.intro @strip_undef @strip_tup) (And.intro @stripC_int
    @stripC_bool)) (And.intro (And.intro @stripC_str @stripC_slice) (And.intro @stripC_ptr @stripC_agg)))))) (And.intro (And.intro (And.intro
    (And.intro (And.intro @stripC_nil (And.intro @stripC_niliface @stripC_iface)) (And.intro (And.intro @stripC_fn @bi_add) (And.intro @bi_sub
    @bi_mul))) (And.intro (And.intro (And.intro @bi_eql @bi_neq) (And.intro @bi_lss @bi_leq)) (And.intro (And.intro @bi_gtr @bi_geq) (And.intro
    @bi_seql @bi_sneq)))) (And.intro (And.intro (And.intro @bi_beql (And.intro @bi_bneq @un_not)) (And.intro (And.intro @lnL_slice @lnS_str) (And.intro
    @mx_int @mn_int))) (And.intro (And.intro (And.intro @cv_int @Bool.and_true) (And.intro @Bool.true_and @Bool.and_self)) (And.intro (And.intro
    @Bool.not_true @Bool.not_false) (And.intro @Bool.and_false @Bool.false_and))))) (And.intro (And.intro (And.intro (And.intro @Bool.or_true
    (And.intro @Bool.or_false @Bool.true_or)) (And.intro (And.intro @Bool.false_or @Bool.false_eq_true) (And.intro @decide_eq_true_eq @and_self)))
    (And.intro (And.intro (And.intro @and_true @true_and) (And.intro @not_true_eq_false @not_false_eq_true)) (And.intro (And.intro @Nat.zero_add
    @Nat.add_zero) (And.intro @Nat.le_refl @Nat.lt_add_one)))) (And.intro (And.intro (And.intro (And.intro @Nat.lt_irrefl @and_false) (And.intro
    @false_and @Bool.not_eq_true')) (And.intro (And.intro @Bool.not_eq_eq_eq_not @decide_eq_false_iff_not) (And.intro @Bool.and_eq_true
    @Bool.or_eq_true))) (And.intro (And.intro (And.intro @decide_true @decide_false) (And.intro @get_loc1 @get_loc01)) (And.intro (And.intro @set_loc1
    @set_loc01) (And.intro @get_old1 @set_old1)))))))) := (And.intro (And.intro (And.intro (And.intro (And.intro (And.intro (And.intro @strip_skip (And.intro @run_pick @run_al)) (And.intro (And.intro @run_bx
    @run_ld) (And.intro @run_st @ldB_some))) (And.intro (And.intro (And.intro @nth_zero @nth_succ) (And.intro @ldTR_some @ldFR_some)) (And.intro
    (And.intro @ldB_t @ldB_f) (And.intro @stB_is @run_ldE0)))) (And.intro (And.intro (And.intro @run_ldEn (And.intro @get_loc @get_loc0)) (And.intro
    (And.intro @get_old @set_loc) (And.intro @set_loc0 @set_old))) (And.intro (And.intro (And.intro @get_set @set_set) (And.intro @add_add @cut0))
    (And.intro (And.intro @cut1 @cut2) (And.intro @cutA0 @cutA1))))) (And.intro (And.intro (And.intro (And.intro @cutA2 (And.intro @len_add @len_set))
    (And.intro (And.intro @w_i64 @w_u64) (And.intro @w_u8 @w_u32))) (And.intro (And.intro (And.intro @w_i32 @run_quo) (And.intro @run_rem @iaR_some))
    (And.intro (And.intro @run_iaS @run_fa) (And.intro @run_faE @callV_fn)))) (And.intro (And.intro (And.intro @nc_ptr (And.intro @nc_elem @nc_nil))
    (And.intro (And.intro @run_mi @run_pn) (And.intro @run_cvI @run_ex0))) (And.intro (And.intro (And.intro @run_ex1 @run_ex2) (And.intro @tupDrop0
    @tupDrop1)) (And.intro (And.intro @tupDrop2 @isTup_int) (And.intro @isCell_int @isVal_int)))))) (And.intro (And.intro (And.intro (And.intro
    (And.intro @isPtr_int (And.intro @cells_int @low_int)) (And.intro (And.intro @isTup_bool @isCell_bool) (And.intro @isVal_bool @isPtr_bool)))
    (And.intro (And.intro (And.intro @cells_bool @low_bool) (And.intro @isTup_str @isCell_str)) (And.intro (And.intro @isVal_str @isPtr_str) (And.intro
    @cells_str @low_str)))) (And.intro (And.intro (And.intro @isTup_nil (And.intro @isCell_nil @isVal_nil)) (And.intro (And.intro @isPtr_nil
    @cells_nil) (And.intro @low_nil @isTup_ptr))) (And.intro (And.intro (And.intro @isCell_ptr @isVal_ptr) (And.intro @isPtr_ptr @cells_ptr))
    (And.intro (And.intro @low_ptr @isTup_elem) (And.intro @isCell_elem @isVal_elem))))) (And.intro (And.intro (And.intro (And.intro @isPtr_elem
    (And.intro @cells_elem @low_elem)) (And.intro (And.intro @isTup_slice @isCell_slice) (And.intro @isVal_slice @isPtr_slice))) (And.intro (And.intro
    (And.intro @cells_slice @low_slice) (And.intro @isTup_fn @isCell_fn)) (And.intro (And.intro @isVal_fn @isPtr_fn) (And.intro @cells_fn @low_fn))))
    (And.intro (And.intro (And.intro @isTup_nilfn (And.intro @isCell_nilfn @isVal_nilfn)) (And.intro (And.intro @isPtr_nilfn @cells_nilfn) (And.intro
    @low_nilfn @isTup_iface))) (And.intro (And.intro (And.intro @isCell_iface @isVal_iface) (And.intro @isPtr_iface @cells_iface)) (And.intro
    (And.intro @low_iface @isTup_niliface) (And.intro @isCell_niliface @isVal_niliface))))))) (And.intro (And.intro (And.intro (And.intro (And.intro
    (And.intro @isPtr_niliface (And.intro @cells_niliface @low_niliface)) (And.intro (And.intro @isTup_agg @isCell_agg) (And.intro @isVal_agg
    @isPtr_agg))) (And.intro (And.intro (And.intro @cells_agg @low_agg) (And.intro @isTup_tup @isCell_tup)) (And.intro (And.intro @isVal_tup
    @isPtr_tup) (And.intro @cells_tup @low_tup)))) (And.intro (And.intro (And.intro @isTup_undef (And.intro @isCell_undef @isVal_undef)) (And.intro
    (And.intro @isPtr_undef @cells_undef) (And.intro @low_undef @lowL_nil))) (And.intro (And.intro (And.intro @lowL_cons @bdR_some) (And.intro @run_bd
    @fillAll_nil)) (And.intro (And.intro @fillAll_cons @fillAt_is) (And.intro @run_bs @tld_ptr))))) (And.intro (And.intro (And.intro (And.intro
    @tst_ptr (And.intro @tld_elem @clash_no)) (And.intro (And.intro @clash_no' @clash_ld_ld) (And.intro @clash_ld_st @clash_st_ld))) (And.intro
    (And.intro (And.intro @clash_st_st @clash_any_ld) (And.intro @clash_ld_any @clash_any_any)) (And.intro (And.intro @strip_int @strip_bool)
    (And.intro @strip_str @strip_slice)))) (And.intro (And.intro (And.intro @strip_ptr (And.intro @strip_agg @strip_elem)) (And.intro (And.intro
    @strip_nil @strip_niliface) (And.intro @strip_iface @strip_fn))) (And.intro (And.intro (And.intro @strip_undef @strip_tup) (And.intro @stripC_int
    @stripC_bool)) (And.intro (And.intro @stripC_str @stripC_slice) (And.intro @stripC_ptr @stripC_agg)))))) (And.intro (And.intro (And.intro
    (And.intro (And.intro @stripC_nil (And.intro @stripC_niliface @stripC_iface)) (And.intro (And.intro @stripC_fn @bi_add) (And.intro @bi_sub
    @bi_mul))) (And.intro (And.intro (And.intro @bi_eql @bi_neq) (And.intro @bi_lss @bi_leq)) (And.intro (And.intro @bi_gtr @bi_geq) (And.intro
    @bi_seql @bi_sneq)))) (And.intro (And.intro (And.intro @bi_beql (And.intro @bi_bneq @un_not)) (And.intro (And.intro @lnL_slice @lnS_str) (And.intro
    @mx_int @mn_int))) (And.intro (And.intro (And.intro @cv_int @Bool.and_true) (And.intro @Bool.true_and @Bool.and_self)) (And.intro (And.intro
    @Bool.not_true @Bool.not_false) (And.intro @Bool.and_false @Bool.false_and))))) (And.intro (And.intro (And.intro (And.intro @Bool.or_true
    (And.intro @Bool.or_false @Bool.true_or)) (And.intro (And.intro @Bool.false_or @Bool.false_eq_true) (And.intro @decide_eq_true_eq @and_self)))
    (And.intro (And.intro (And.intro @and_true @true_and) (And.intro @not_true_eq_false @not_false_eq_true)) (And.intro (And.intro @Nat.zero_add
    @Nat.add_zero) (And.intro @Nat.le_refl @Nat.lt_add_one)))) (And.intro (And.intro (And.intro (And.intro @Nat.lt_irrefl @and_false) (And.intro
    @false_and @Bool.not_eq_true')) (And.intro (And.intro @Bool.not_eq_eq_eq_not @decide_eq_false_iff_not) (And.intro @Bool.and_eq_true
    @Bool.or_eq_true))) (And.intro (And.intro (And.intro @decide_true @decide_false) (And.intro @get_loc1 @get_loc01)) (And.intro (And.intro @set_loc1
    @set_loc01) (And.intro @get_old1 @set_old1))))))))
end Go.Proofs.Ytofbbijagbpicaa.Pi
namespace Go.Proofs.Ytofbbijagbpicaa.Pi
set_option linter.unusedVariables false
set_option linter.unusedSimpArgs false
variable {α β σ : Type} {c : Nat} {H : Heap}
def St (H : Heap) (c : Nat) (bx : Box) (L : List Box) : Heap := hadd (hset H c bx) L
def killR (c : Nat) : Option (Out α) → Option (Out α)
  | some (.pan v H) => some (.pan v (hset H c .dead))
  | r => r
def runK (c : Nat) (m : M α) (H : Heap) : Option (Out α) := killR c (run m H)
def bindK (c : Nat) (r : Option (Out α)) (f : α → M β) : Option (Out β) :=
  match r with
  | none => none
  | some (.ok v H) => runK c (f v) H
  | some (.pan v H) => some (.pan v H)
inductive Res (σ α : Type) where
  | ok (v : α) (s : σ)
  | err (t : TypeId) (l : List Int)
  | no
def fltP (t : TypeId) (l : List Int) : PV := .iface t (.agg (l.map (PV.int .i64)))
theorem fltP_is {t : TypeId} {l : List Int} : fltP t l = .iface t (.agg (l.map (PV.int .i64))) := nrfl rfl
theorem lowL_ints {n : Nat} : ∀ l : List Int, lowL n (l.map (PV.int .i64)) = true
  | [] => lowL_nil
  | a :: r => by rw [List.map_cons, lowL_cons, low_int, lowL_ints r]; rfl
theorem low_fltP {t : TypeId} {l : List Int} {n : Nat} : (fltP t l).low n = true := by
  unfold fltP
  rw [low_iface, low_agg]
  exact lowL_ints l
def Res.bind {σ τ α β : Type} (r : Res σ α) (g : α → σ → Res τ β) : Res τ β :=
  match r with
  | .ok v s => g v s
  | .err t l => .err t l
  | .no => .no
def elimK {σ α γ : Type} (c : Nat) (H : Heap) (L : List Box) (r : Res σ α) (g : α → σ → Option (Out γ)) : Option (Out γ) :=
  match r with
  | .ok v s => g v s
  | .err t l => some (.pan (fltP t l) (St H c .dead L))
  | .no => none
def outK (c : Nat) (H : Heap) (L : List Box) (bx : σ → Box) (enc : α → PV) (r : Res σ α) : Option (Out PV) := elimK c H L r fun v s => some (.ok (enc v) (St H c (bx s) L))
def outS (c : Nat) (H : Heap) (L : List Box) (bx : σ → Box) (enc : α → PV) (r : α × σ) : Option (Out PV) := some (.ok (enc r.1) (St H c (bx r.2) L))
@[congr] theorem bindK_congr {r r' : Option (Out α)} {f : α → M β} (h : r = r') : bindK c r f = bindK c r' f := by rw [h]
@[congr] theorem elimK_congr {σ α γ : Type} {L L' : List Box} {r r' : Res σ α} {g g' : α → σ → Option (Out γ)} (h : r = r') (hL : L = L') (hg : ∀ v s, r' = .ok v s → g v s = g' v s) : elimK c H L r g = elimK c H L' r' g' := by
  subst h hL
  cases r with
  | ok v s => exact hg v s rfl
  | err t l => rfl
  | no => rfl
theorem outK_is {L : List Box} {bx : σ → Box} {enc : α → PV} {r : Res σ α} : outK c H L bx enc r = elimK c H L r fun v s => some (.ok (enc v) (St H c (bx s) L)) := nrfl rfl
theorem outK_ok {L : List Box} {bx : σ → Box} {enc : α → PV} {v : α} {s : σ} : outK c H L bx enc (.ok v s) = some (.ok (enc v) (St H c (bx s) L)) := nrfl rfl
theorem outK_err {L : List Box} {bx : σ → Box} {enc : α → PV} {t : TypeId} {l : List Int} : outK c H L bx enc (Res.err t l : Res σ α) = some (.pan (fltP t l) (St H c .dead L)) := nrfl rfl
theorem outK_no {L : List Box} {bx : σ → Box} {enc : α → PV} : outK c H L bx enc (Res.no : Res σ α) = none := nrfl rfl
theorem elimK_no {γ : Type} {L : List Box} {g : α → σ → Option (Out γ)} : elimK c H L (Res.no : Res σ α) g = none := nrfl rfl
theorem outK_bind {τ : Type} {β : Type} {L : List Box} {bx : σ → Box} {enc : α → PV} {r : Res τ β} {g : β → τ → Res σ α} : outK c H L bx enc (r.bind g) = elimK c H L r fun v s => outK c H L bx enc (g v s) := by cases r <;> rfl
theorem outK_ite {L : List Box} {bx : σ → Box} {enc : α → PV} {p : Prop} [Decidable p] {r r' : Res σ α} : outK c H L bx enc (if p then r else r') = if p then outK c H L bx enc r else outK c H L bx enc r' := by split <;> rfl
theorem elimK_ok {γ : Type} {L : List Box} {v : α} {s : σ} {g : α → σ → Option (Out γ)} : elimK c H L (.ok v s) g = g v s := nrfl rfl
theorem elimK_err {γ : Type} {L : List Box} {t : TypeId} {l : List Int} {g : α → σ → Option (Out γ)} : elimK c H L (Res.err t l : Res σ α) g = some (.pan (fltP t l) (St H c .dead L)) := nrfl rfl
theorem elimK_ite {γ : Type} {L : List Box} {p : Prop} [Decidable p] {r r' : Res σ α} {g : α → σ → Option (Out γ)} : elimK c H L (if p then r else r') g = if p then elimK c H L r g else elimK c H L r' g := by split <;> rfl
theorem elimK_bind {γ τ β : Type} {L : List Box} {r : Res τ β} {f : β → τ → Res σ α} {g : α → σ → Option (Out γ)} : elimK c H L (r.bind f) g = elimK c H L r fun v s => elimK c H L (f v s) g := by cases r <;> rfl
theorem killR_ok {v : α} : killR c (some (.ok v H)) = some (.ok v H) := nrfl rfl
theorem killR_none : killR c (none : Option (Out α)) = none := nrfl rfl
theorem killR_pan {v : PV} : killR c (some (.pan v H) : Option (Out α)) = some (.pan v (hset H c .dead)) := nrfl rfl
theorem killR_ite {p : Prop} [Decidable p] {r r' : Option (Out α)} : killR c (if p then r else r') = if p then killR c r else killR c r' := by split <;> rfl
theorem runK_bind {m : M α} {f : α → M β} : runK c (M.bind m f) H = bindK c (runK c m H) f := by
  unfold runK
  rw [run_bind]
  cases run m H with
  | none => rfl
  | some q => cases q <;> rfl
theorem bindK_ok {f : α → M β} {v : α} : bindK c (some (.ok v H)) f = runK c (f v) H := nrfl rfl
theorem bindK_none {f : α → M β} : bindK c none f = none := nrfl rfl
theorem bindK_pan {f : α → M β} {v : PV} : bindK c (some (.pan v H)) f = some (.pan v H) := nrfl rfl
theorem bindK_ite {p : Prop} [Decidable p] {r r' : Option (Out α)} {f : α → M β} : bindK c (if p then r else r') f = if p then bindK c r f else bindK c r' f := by split <;> rfl
theorem bindK_elim {L : List Box} {r : Res σ α} {g : α → σ → Option (Out PV)} {f : PV → M β} : bindK c (elimK c H L r g) f = elimK c H L r fun v s => bindK c (g v s) f := by cases r <;> rfl
noncomputable def nbK (c : Nat) (H : Heap) (r : Option (Out α)) (f : α → M β) : Option (Out β) := killR c (nbR H r f)
@[congr] theorem nbK_congr {r r' : Option (Out α)} {f : α → M β} (h : r = r') : nbK c H r f = nbK c H r' f := by rw [h]
theorem runK_nb {m : M α} {f : α → M β} : runK c (nb m f) H = nbK c H (runK c m H) f := by
  unfold nbK runK nbR run nb killR
  dsimp only
  cases m H with
  | none => rfl
  | some q => cases q <;> rfl
theorem nbK_ok {f : α → M β} {v : α} : nbK c H (some (.ok v H)) f = runK c (f v) H := by
  unfold nbK
  rw [nbR_ok]
  rfl
theorem nbK_none {f : α → M β} : nbK c H none f = none := by
  unfold nbK nbR nb
  rfl
theorem nbK_ite {p : Prop} [Decidable p] {r r' : Option (Out α)} {f : α → M β} : nbK c H (if p then r else r') f = if p then nbK c H r f else nbK c H r' f := by split <;> rfl
theorem runK_trunc {m : M PV} (hc : c < List.length H) : runK c (trunc m) H = truncR H (runK c m H) := by
  unfold runK
  rw [run_trunc]
  cases run m H with
  | none => rfl
  | some q => cases q with
    | ok v K => rfl
    | pan v K =>
      show killR c (bif v.low H.length then some (Out.pan v (hcut K H.length)) else none) = (bif v.low H.length then some (Out.pan v (hcut (hset K c .dead) H.length)) else none)
      cases v.low H.length with
      | false => rfl
      | true =>
        simp only [cond_true, killR_pan, Option.some.injEq, Out.pan.injEq, true_and]
        unfold hset hcut
        rw [List.take_set]
theorem runK_guard {p : Bool} {m : M α} : runK c (guardM p m) H = if p = true then runK c m H else none := by cases p <;> rfl
theorem runK_resT {v : PV} {m : M PV} : runK c (resT v m) H = if isTup v = true then none else runK c m H := by unfold resT; cases isTup v <;> rfl
theorem runK_cond {p : Bool} {x y : M α} : runK c (condM (.bool p) x y) H = if p = true then runK c x H else runK c y H := by cases p <;> rfl
theorem runK_gdT {p : Bool} {m : M PV} : runK c (gd (.bool p) true m) H = if p = true then runK c m H else some (.ok (.tup []) H) := by cases p <;> rfl
theorem runK_gdF {p : Bool} {m : M PV} : runK c (gd (.bool p) false m) H = if p = true then some (.ok (.tup []) H) else runK c m H := by cases p <;> rfl
theorem runK_gdS {b : Bool} {m : M PV} : runK c (gd (.tup []) b m) H = some (.ok (.tup []) H) := nrfl rfl
theorem runK_pure {v : α} : runK c (M.pure v) H = some (.ok v H) := nrfl rfl
theorem runK_pan {v : PV} : runK c (M.pan v : M α) H = some (.pan v (hset H c .dead)) := nrfl rfl
theorem runK_fail : runK c (M.fail : M α) H = none := nrfl rfl
theorem runK_noPan {m : M PV} : runK c (noPan m) H = noPanR (run m H) := by
  unfold runK
  rw [run_noPan]
  cases run m H with
  | none => rfl
  | some q => cases q <;> rfl
noncomputable def chkK (c : Nat) (r r' : Option (Out α)) (x : M β) (H : Heap) : Option (Out β) := killR c (chkR r r' x H)
@[congr] theorem chkK_congr {r r' s s' : Option (Out α)} {x : M β} (h : r = s) (h' : r' = s') : chkK c r r' x H = chkK c s s' x H := by rw [h, h']
theorem runK_chk {m m' : M α} {x : M β} : runK c (chk m m' x) H = chkK c (run m H) (run m' H) x H := nrfl rfl
theorem chkK_ok {a : α} {K : Heap} {x : M β} : chkK c (some (.ok a K)) (some (.ok a K)) x H = runK c x H := by
  unfold chkK
  rw [chkR_ok]
  rfl
theorem chkK_none {r : Option (Out α)} {x : M β} : chkK c none r x H = none := by
  unfold chkK chkR run chk
  rfl
theorem chkK_ite {p : Prop} [Decidable p] {r r' s : Option (Out α)} {x : M β} : chkK c (if p then r else r') s x H = if p then chkK c r s x H else chkK c r' s x H := by split <;> rfl
theorem chkR_none {r : Option (Out α)} {x : M β} : chkR none r x H = none := by
  unfold chkR run chk
  rfl
theorem chkR_ite {p : Prop} [Decidable p] {r r' s : Option (Out α)} {x : M β} : chkR (if p then r else r') s x H = if p then chkR r s x H else chkR r' s x H := by split <;> rfl
section
variable {n : Nat} {id o : Nat} {x y v i : PV} {cs : List PV} {m : Option Nat} {mv b : Bool} {L : List Box}
theorem runK_al : runK c (al cs) H = killR c (run (al cs) H) := nrfl rfl
theorem runK_bx : runK c (bx n v) H = killR c (run (bx n v) H) := nrfl rfl
theorem runK_ld : runK c (ld m mv v) H = killR c (run (ld m mv v) H) := nrfl rfl
theorem runK_st : runK c (st n mv x v) H = killR c (run (st n mv x v) H) := nrfl rfl
theorem runK_iaS : runK c (iaS n x i) H = killR c (run (iaS n x i) H) := nrfl rfl
theorem runK_ixA {len : Nat} : runK c (ixA len n m x i) H = killR c (run (ixA len n m x i) H) := nrfl rfl
theorem runK_pick : runK c (pick v x y) H = killR c (run (pick v x y) H) := nrfl rfl
theorem runK_mi {t : TypeId} : runK c (mi t v) H = killR c (run (mi t v) H) := nrfl rfl
theorem runK_mf {t : FuncId} {l l' : List PV} : runK c (mf t l l') H = killR c (run (mf t l l') H) := nrfl rfl
theorem runK_bd {z : List PV} {ps : List (Nat × Nat × PV)} : runK c (bd z ps) H = killR c (run (bd z ps) H) := nrfl rfl
theorem runK_bs {l : List PV} : runK c (bs b m l) H = killR c (run (bs b m l) H) := nrfl rfl
theorem runK_ap {k : Nat} : runK c (ap b n k x y) H = killR c (run (ap b n k x y) H) := nrfl rfl
theorem runK_mk {k : Nat} : runK c (mk b n k x y) H = killR c (run (mk b n k x y) H) := nrfl rfl
theorem runK_lnS : runK c (lnS x) H = killR c (run (lnS x) H) := nrfl rfl
theorem runK_lnL : runK c (lnL x) H = killR c (run (lnL x) H) := nrfl rfl
theorem runK_ixS : runK c (ixS x i) H = killR c (run (ixS x i) H) := nrfl rfl
theorem runK_slS {lo hi : Option PV} : runK c (slS x lo hi) H = killR c (run (slS x lo hi) H) := nrfl rfl
theorem runK_slL {lo hi : Option PV} : runK c (slL n x lo hi) H = killR c (run (slL n x lo hi) H) := nrfl rfl
theorem runK_cv {k : Cv} : runK c (cv k b x) H = killR c (run (cv k b x) H) := nrfl rfl
theorem runK_ex : runK c (ex n x) H = killR c (run (ex n x) H) := nrfl rfl
theorem runK_bi {op : BinOp} {ek : EqK} : runK c (bi op ek x y) H = killR c (run (bi op ek x y) H) := nrfl rfl
theorem toK {m : M PV} : runK c m H = killR c (run m H) := nrfl rfl
theorem St_flat {x : Box} (hc : c < List.length H) : St H c x L = St (hadd H L) c x [] := by
  unfold St hadd hset
  rw [List.append_nil, List.set_append_left _ _ hc]
theorem St_out {x : Box} {K : Heap} {L' : List Box} (hK : K = hadd H L) (hc : c < List.length H) : St K c x L' = St H c x (L ++ L') := by
  subst hK
  unfold St hadd hset
  rw [List.set_append_left _ _ hc, List.append_assoc]
theorem outK_out {K : Heap} {L' : List Box} {bx : σ → Box} {enc : α → PV} {r : Res σ α} (hK : K = hadd H L) (hc : c < List.length H) : outK c K L' bx enc r = outK c H (L ++ L') bx enc r := by
  cases r <;> simp only [outK, elimK, St_out hK hc]
theorem len_St {x : Box} : List.length (St H c x L) = List.length H + List.length L := by unfold St; rw [len_add, len_set]
theorem get_St {x : Box} (hc : c < List.length H) : hget (St H c x L) c = some x := by unfold St; rw [get_old1 hc, get_set hc]
theorem get_StL {x : Box} (k : Nat) : hget (St H c x L) (List.length H + k) = nth L k := get_loc1 k
theorem get_StL0 {x : Box} : hget (St H c x L) (List.length H) = nth L 0 := get_loc01
theorem set_St {x y : Box} (hc : c < List.length H) : hset (St H c x L) c y = St H c y L := by unfold St; rw [set_old1 hc, set_set]
theorem set_StL {x y : Box} (k : Nat) : hset (St H c x L) (List.length H + k) y = St H c x (L.set k y) := set_loc1 k
theorem set_StL0 {x y : Box} : hset (St H c x L) (List.length H) y = St H c x (L.set 0 y) := set_loc01
theorem add_St {x : Box} {K : List Box} : hadd (St H c x L) K = St H c x (L ++ K) := add_add
theorem cut_St {x : Box} : hcut (St H c x L) (List.length H) = St H c x [] := by
  unfold St
  rw [cutA1]
  exact (List.append_nil _).symm
theorem truncR_elim {r : Res σ α} {bx : Box} {g : α → σ → Option (Out PV)} : truncR (St H c bx []) (elimK c H L r g) = elimK c H [] r fun v s => truncR (St H c bx []) (g v s) := by
  cases r with
  | ok v s => rfl
  | err t l =>
    show truncR (St H c bx []) (some (Out.pan (fltP t l) (St H c .dead L))) = some (Out.pan (fltP t l) (St H c .dead []))
    rw [truncR_pan, if_pos low_fltP, len_St, List.length_nil, Nat.add_zero, cut_St]
  | no => rfl
theorem runK_truncS {m : M PV} {x : Box} (hc : c < List.length H) : runK c (trunc m) (St H c x L) = truncR (St H c x L) (runK c m (St H c x L)) := runK_trunc (by rw [len_St]; omega)
theorem liftK {m : M PV} {x : Box} {bx : σ → Box} {enc : α → PV} {r : Res σ α} (h : ∀ H, c < List.length H → runK c m (St H c x []) = outK c H [] bx enc r) (hc : c < List.length H) : runK c m (St H c x L) = outK c H L bx enc r := by
  rw [St_flat hc, h _ (by rw [len_add]; omega)]
  cases r with
  | ok v s => rw [outK_ok, outK_ok, St_flat (L := L) hc]
  | err t l => rw [outK_err, outK_err, St_flat (L := L) hc]
  | no => rfl
theorem outS_is {bx : σ → Box} {enc : α → PV} {v : α} {s : σ} : outS c H L bx enc (v, s) = some (.ok (enc v) (St H c (bx s) L)) := nrfl rfl
theorem bindR_S {bx : σ → Box} {enc : α → PV} {r : α × σ} {f : PV → M β} : bindR (outS c H L bx enc r) f = run (f (enc r.1)) (St H c (bx r.2) L) := nrfl rfl
end
end Go.Proofs.Ytofbbijagbpicaa.Pi
namespace Go.Proofs.Ytofbbijagbpicaa.Pi
set_option linter.unusedVariables false
set_option maxRecDepth 100000
theorem kDown : type_of% (And.intro (And.intro (And.intro (And.intro (And.intro @outK_ok @outK_err) (And.intro @outK_no (And.intro @elimK_no @outK_bind))) (And.intro
    (And.intro @outK_ite @elimK_ok) (And.intro @elimK_err (And.intro @elimK_ite @elimK_bind)))) (And.intro (And.intro (And.intro @killR_ok @killR_none)
    (And.intro @killR_pan (And.intro @killR_ite @runK_bind))) (And.intro (And.intro @bindK_ok (And.intro @bindK_none @bindK_pan)) (And.intro @bindK_ite
    (And.intro @bindK_elim @truncR_elim))))) (And.intro (And.intro (And.intro (And.intro @runK_nb @nbK_ok) (And.intro @nbK_none (And.intro @nbK_ite
    @runK_truncS))) (And.intro (And.intro @runK_guard (And.intro @runK_resT @runK_cond)) (And.intro @runK_gdT (And.intro @runK_gdF @runK_gdS))))
    (And.intro (And.intro (And.intro @runK_pure @runK_pan) (And.intro @runK_fail (And.intro @runK_noPan @runK_chk))) (And.intro (And.intro @chkK_ok
    (And.intro @chkK_none @chkK_ite)) (And.intro @chkR_none (And.intro @chkR_ite @bindR_S)))))) := (And.intro (And.intro (And.intro (And.intro (And.intro @outK_ok @outK_err) (And.intro @outK_no (And.intro @elimK_no @outK_bind))) (And.intro
    (And.intro @outK_ite @elimK_ok) (And.intro @elimK_err (And.intro @elimK_ite @elimK_bind)))) (And.intro (And.intro (And.intro @killR_ok @killR_none)
    (And.intro @killR_pan (And.intro @killR_ite @runK_bind))) (And.intro (And.intro @bindK_ok (And.intro @bindK_none @bindK_pan)) (And.intro @bindK_ite
    (And.intro @bindK_elim @truncR_elim))))) (And.intro (And.intro (And.intro (And.intro @runK_nb @nbK_ok) (And.intro @nbK_none (And.intro @nbK_ite
    @runK_truncS))) (And.intro (And.intro @runK_guard (And.intro @runK_resT @runK_cond)) (And.intro @runK_gdT (And.intro @runK_gdF @runK_gdS))))
    (And.intro (And.intro (And.intro @runK_pure @runK_pan) (And.intro @runK_fail (And.intro @runK_noPan @runK_chk))) (And.intro (And.intro @chkK_ok
    (And.intro @chkK_none @chkK_ite)) (And.intro @chkR_none (And.intro @chkR_ite @bindR_S))))))
theorem kUp : type_of% (And.intro (And.intro (And.intro (And.intro (And.intro @outK_is @outS_is) (And.intro @fltP_is @low_fltP)) (And.intro (And.intro @runK_al @runK_bx)
    (And.intro @runK_ld @runK_st))) (And.intro (And.intro (And.intro @runK_iaS @runK_ixA) (And.intro @runK_pick @runK_mi)) (And.intro (And.intro
    @runK_mf @runK_bd) (And.intro @runK_bs (And.intro @runK_ap @runK_mk))))) (And.intro (And.intro (And.intro (And.intro @runK_lnS @runK_lnL)
    (And.intro @runK_ixS @runK_slS)) (And.intro (And.intro @runK_slL @runK_cv) (And.intro @runK_ex @runK_bi))) (And.intro (And.intro (And.intro @len_St
    @get_St) (And.intro @get_StL @get_StL0)) (And.intro (And.intro @set_St @set_StL) (And.intro @set_StL0 (And.intro @add_St @cut_St)))))) := (And.intro (And.intro (And.intro (And.intro (And.intro @outK_is @outS_is) (And.intro @fltP_is @low_fltP)) (And.intro (And.intro @runK_al @runK_bx)
    (And.intro @runK_ld @runK_st))) (And.intro (And.intro (And.intro @runK_iaS @runK_ixA) (And.intro @runK_pick @runK_mi)) (And.intro (And.intro
    @runK_mf @runK_bd) (And.intro @runK_bs (And.intro @runK_ap @runK_mk))))) (And.intro (And.intro (And.intro (And.intro @runK_lnS @runK_lnL)
    (And.intro @runK_ixS @runK_slS)) (And.intro (And.intro @runK_slL @runK_cv) (And.intro @runK_ex @runK_bi))) (And.intro (And.intro (And.intro @len_St
    @get_St) (And.intro @get_StL @get_StL0)) (And.intro (And.intro @set_St @set_StL) (And.intro @set_StL0 (And.intro @add_St @cut_St))))))
end Go.Proofs.Ytofbbijagbpicaa.Pi
namespace Go.Proofs.Ytofbbijagbpicaa.Pi.Q
open Go Go.Proofs.Ytofbbijagbpicaa.Pi
set_option linter.unusedVariables false
noncomputable abbrev P : Program := Try.prog
noncomputable abbrev X : ExtT := fun _ => none
noncomputable abbrev C := callW P X
noncomputable abbrev CD := callDW P X
abbrev k_ratchetlaw08_EntryLeast : FuncId := 6
abbrev k_entry_PutValType : FuncId := 10
abbrev k_entry_PutRecType : FuncId := 14
abbrev k_ratchetlaw08_awake : FuncId := 20
abbrev k_ratchetref05_SameSub : FuncId := 35
abbrev k_entry_RecType : FuncId := 38
abbrev k_ratchetref05_SameRec : FuncId := 40
abbrev k_entry_write : FuncId := 41
abbrev k_entry_pen_heap : FuncId := 43
abbrev k_entry_PutValType_1 : FuncId := 46
abbrev k_entry_pen_val : FuncId := 47
abbrev k_entry_pen_must : FuncId := 50
abbrev k_entry_fits : FuncId := 51
abbrev k_leb_PutS : FuncId := 52
abbrev k_entry_pen_byte : FuncId := 53
abbrev k_entry_PutRecType_1 : FuncId := 56
abbrev k_entry_pen_sub : FuncId := 57
abbrev k_entry_each_api_SubType : FuncId := 58
abbrev k_entry_cursor_heap : FuncId := 68
abbrev k_entry_cursor_ref : FuncId := 73
abbrev k_entry_cursor_val : FuncId := 75
abbrev k_entry_cursor_vals : FuncId := 80
abbrev k_entry_cursor_field : FuncId := 83
abbrev k_entry_cursor_comp : FuncId := 86
abbrev k_ratchetref05_SameVals : FuncId := 88
abbrev k_ratchetref05_sameFields : FuncId := 89
abbrev k_entry_cursor_sub : FuncId := 91
abbrev k_entry_read_api_RecType : FuncId := 93
abbrev k_entry_cursor_rec : FuncId := 94
abbrev k_entry_write_1 : FuncId := 96
abbrev k_entry_abstract : FuncId := 97
abbrev k_entry_pen_comp : FuncId := 99
abbrev k_entry_each_int : FuncId := 100
abbrev k_entry_pen_index : FuncId := 101
abbrev k_entry_pen_u : FuncId := 102
abbrev k_entry_named : FuncId := 106
abbrev k_entry_cursor_look : FuncId := 107
abbrev k_entry_cursor_s33 : FuncId := 108
abbrev k_entry_cursor_fail : FuncId := 114
abbrev k_entry_list_api_ValType : FuncId := 118
abbrev k_entry_cursor_small : FuncId := 121
abbrev k_entry_list_api_Field : FuncId := 124
abbrev k_ratchetref05_Same : FuncId := 125
abbrev k_entry_list_int : FuncId := 127
abbrev k_entry_cursor_index : FuncId := 128
abbrev k_entry_read_api_RecType_1 : FuncId := 130
abbrev k_entry_list_api_SubType : FuncId := 131
abbrev k_entry_pen_vals : FuncId := 132
abbrev k_entry_each_api_Field : FuncId := 133
abbrev k_entry_pen_field : FuncId := 134
abbrev k_leb_PutU : FuncId := 135
abbrev k_leb_S33 : FuncId := 139
abbrev k_entry_got_int64 : FuncId := 140
abbrev k_entry_cursor_u32 : FuncId := 142
abbrev k_entry_each_api_ValType : FuncId := 143
abbrev k_entry_pen_flag : FuncId := 144
abbrev k_leb_number_int64_int64 : FuncId := 146
abbrev k_leb_s33 : FuncId := 147
abbrev k_leb_U32 : FuncId := 150
abbrev k_entry_got_uint32 : FuncId := 151
abbrev k_leb_opened : FuncId := 152
abbrev k_leb_window_signed : FuncId := 153
abbrev k_leb_number_uint32_uint64 : FuncId := 154
abbrev k_leb_u32 : FuncId := 155
abbrev k_leb_window_unsigned : FuncId := 156
abbrev y_entry_fault : TypeId := 148
end Go.Proofs.Ytofbbijagbpicaa.Pi.Q
namespace Go.Proofs.Ytofbbijagbpicaa.Pi.Q
open Go Go.Proofs.Ytofbbijagbpicaa.Pi
set_option linter.unusedVariables false
set_option maxRecDepth 100000
theorem ratchetlaw08_EntryLeast_eq (a0 a1 : PV) : C k_ratchetlaw08_EntryLeast [a0, a1] =
 trunc (M.bind (C k_entry_RecType [(strip (strip a0)), (strip (strip a1))]) fun t16_0 =>
 M.bind (ex 0 (strip t16_0)) fun t17_1 =>
 M.bind (ex 1 (tupDrop 0 (strip t16_0))) fun t18_2 =>
 M.bind (ex 2 (tupDrop 1 (tupDrop 0 (strip t16_0)))) fun t19_3 =>
 M.bind (al [(.slice false true 0 []), (.bool false)]) fun t5_4 =>
 M.bind (st 2 true t5_4 t17_1) fun _ =>
 M.bind (bi .neq .none (strip t19_3) (.int .i64 0)) fun t21_6 =>
 condM t21_6
 (M.bind (C k_ratchetlaw08_awake []) fun t22_7 =>
 resT t22_7 (M.pure t22_7))
 (M.bind (ld (some 2) false t5_4) fun t24_8 =>
 M.bind (C k_entry_PutRecType [(strip t24_8)]) fun t25_9 =>
 M.bind (ex 0 (strip t25_9)) fun t26_10 =>
 M.bind (ex 1 (tupDrop 0 (strip t25_9))) fun t27_11 =>
 M.bind (bi .neq .none (strip t27_11) (.int .i64 0)) fun t29_12 =>
 M.bind (gd (strip t29_12) false (M.pure (strip t26_10))) fun t31_13 =>
 M.bind (gd (strip t29_12) false (lnL t31_13)) fun t32_14 =>
 M.bind (gd (strip t29_12) false (M.pure (strip t18_2))) fun t33_15 =>
 M.bind (gd (strip t29_12) false (M.pure (strip a1))) fun t34_16 =>
 M.bind (gd (strip t29_12) false (bi .sub .none t33_15 t34_16)) fun t35_17 =>
 M.bind (gd (strip t29_12) false (bi .gtr .none t32_14 t35_17)) fun t36_18 =>
 M.bind (pick (strip t29_12) (.bool true) t36_18) fun t37_19 =>
 condM t37_19
 (M.pure (.bool false))
 (M.bind (C k_entry_RecType [(strip (strip t26_10)), (.int .i64 0)]) fun t40_20 =>
 M.bind (ex 0 (strip t40_20)) fun t41_21 =>
 M.bind (ex 1 (tupDrop 0 (strip t40_20))) fun t42_22 =>
 M.bind (ex 2 (tupDrop 1 (tupDrop 0 (strip t40_20)))) fun t43_23 =>
 M.bind (al [(.slice false true 0 []), (.bool false)]) fun t10_24 =>
 M.bind (st 2 true t10_24 t41_21) fun _ =>
 M.bind (fa 1 t5_4) fun t44_26 =>
 M.bind (ld none false t44_26) fun t45_27 =>
 M.bind (gd (strip t45_27) true (fa 0 t5_4)) fun t47_28 =>
 M.bind (gd (strip t45_27) true (ld none false t47_28)) fun t48_29 =>
 M.bind (gd (strip t45_27) true (lnL t48_29)) fun t49_30 =>
 M.bind (gd (strip t45_27) true (bi .neq .none t49_30 (.int .i64 1))) fun t50_31 =>
 M.bind (pick (strip t45_27) t50_31 (.bool false)) fun t51_32 =>
 M.bind (fa 1 t5_4) fun t52_33 =>
 M.bind (st 1 true t52_33 t51_32) fun _ =>
 M.bind (bi .eql .none (strip t43_23) (.int .i64 0)) fun t54_35 =>
 M.bind (gd (strip t54_35) true (M.pure (strip t42_22))) fun t56_36 =>
 M.bind (gd (strip t54_35) true (M.pure (strip t26_10))) fun t57_37 =>
 M.bind (gd (strip t54_35) true (lnL t57_37)) fun t58_38 =>
 M.bind (gd (strip t54_35) true (bi .eql .none t56_36 t58_38)) fun t59_39 =>
 M.bind (pick (strip t54_35) t59_39 (.bool false)) fun t60_40 =>
 M.bind (gd (strip t60_40) true (ld (some 2) false t5_4)) fun t62_41 =>
 M.bind (gd (strip t60_40) true (ld (some 2) false t10_24)) fun t63_42 =>
 M.bind (gd (strip t60_40) true (C k_ratchetref05_SameRec [(strip t62_41), (strip t63_42)])) fun t64_43 =>
 M.bind (pick (strip t60_40) t64_43 (.bool false)) fun t65_44 =>
 M.bind (gd (strip t65_44) true (C k_ratchetlaw08_awake [])) fun t67_45 =>
 M.bind (pick (strip t65_44) t67_45 (.bool false)) fun t68_46 =>
 resT t68_46 (M.pure t68_46)))) := by
 rw [C, callW_eq _ _ rfl]; kernel_rfl
theorem entry_PutValType_eq (a0 : PV) : C k_entry_PutValType [a0] =
 trunc (M.bind (bx 3 a0) fun t1_0 =>
 M.bind (mf k_entry_PutValType_1 [] [t1_0]) fun t4_1 =>
 M.bind (C k_entry_write [(strip t4_1)]) fun t5_2 =>
 M.bind (ex 0 t5_2) fun t6_3 =>
 M.bind (ex 1 (tupDrop 0 t5_2)) fun t7_4 =>
 resT t6_3 (resT t7_4 (M.pure (.tup [t6_3, t7_4])))) := by
 rw [C, callW_eq _ _ rfl]; kernel_rfl
theorem entry_PutRecType_eq (a0 : PV) : C k_entry_PutRecType [a0] =
 trunc (M.bind (bx 2 a0) fun t1_0 =>
 M.bind (mf k_entry_PutRecType_1 [] [t1_0]) fun t4_1 =>
 M.bind (C k_entry_write [(strip t4_1)]) fun t5_2 =>
 M.bind (ex 0 t5_2) fun t6_3 =>
 M.bind (ex 1 (tupDrop 0 t5_2)) fun t7_4 =>
 resT t6_3 (resT t7_4 (M.pure (.tup [t6_3, t7_4])))) := by
 rw [C, callW_eq _ _ rfl]; kernel_rfl
theorem ratchetlaw08_awake_eq : C k_ratchetlaw08_awake [] =
 trunc (M.bind (bd [(.int .i64 0), (.bool false), (.int .i64 0)] [(0, 1, (.int .i64 1))]) fun t4_0 =>
 M.bind (C k_entry_PutValType [(strip t4_0)]) fun t5_1 =>
 M.bind (ex 0 (strip t5_1)) fun t6_2 =>
 M.bind (ex 1 (tupDrop 0 (strip t5_1))) fun t7_3 =>
 M.bind (bi .eql .none (strip t7_3) (.int .i64 0)) fun t9_4 =>
 M.bind (gd (strip t9_4) true (M.pure (strip t6_2))) fun t11_5 =>
 M.bind (gd (strip t9_4) true (cv .bytesToStr true t11_5)) fun t12_6 =>
 M.bind (gd (strip t9_4) true (bi .eql .none t12_6 (.str ⟨#[127]⟩))) fun t13_7 =>
 M.bind (pick (strip t9_4) t13_7 (.bool false)) fun t14_8 =>
 resT t14_8 (M.pure t14_8)) := by
 rw [C, callW_eq _ _ rfl]; kernel_rfl
noncomputable def p_ratchetref05_SameSub_11010 (v2 v3 v4 v5 : PV) : M PV := atP P X k_ratchetref05_SameSub [1, 1, 0, 1, 0] (mkEnv 72 0 [(2, v2), (3, v3), (4, v4), (5, v5)])
theorem p_ratchetref05_SameSub_11010_eq (v2 v3 v4 v5 : PV) : p_ratchetref05_SameSub_11010 v2 v3 v4 v5 =
 M.bind (fa 1 v2) fun t30_0 =>
 M.bind (ld none false t30_0) fun t31_1 =>
 M.bind (lnL t31_1) fun t32_2 =>
 M.bind (bi .lss .none (strip v5) t32_2) fun t33_3 =>
 condM t33_3
 (nb (fa 1 v2) fun t36_4 =>
 nb (ld none false t36_4) fun t37_5 =>
 nb (iaS 1 t37_5 (strip v5)) fun t39_6 =>
 nb (ld none false t39_6) fun t40_7 =>
 nb (fa 1 v3) fun t41_8 =>
 nb (ld none false t41_8) fun t42_9 =>
 nb (iaS 1 t42_9 (strip v5)) fun t44_10 =>
 nb (ld none false t44_10) fun t45_11 =>
 nb (bi .neq .none t40_7 t45_11) fun t46_12 =>
 condM t46_12
 (M.pure (.bool false))
 (M.bind (bi .add .none (strip v5) (.int .i64 1)) fun t35_13 =>
 p_ratchetref05_SameSub_11010 v2 v3 v4 t35_13))
 (M.bind (fa 2 v2) fun t47_14 =>
 M.bind (fa 1 t47_14) fun t48_15 =>
 M.bind (ld none false t48_15) fun t49_16 =>
 M.bind (fa 2 v3) fun t50_17 =>
 M.bind (fa 1 t50_17) fun t51_18 =>
 M.bind (ld none false t51_18) fun t52_19 =>
 M.bind (C k_ratchetref05_SameVals [(strip t49_16), (strip t52_19)]) fun t53_20 =>
 M.bind (gd (strip t53_20) true (fa 2 v2)) fun t55_21 =>
 M.bind (gd (strip t53_20) true (fa 2 t55_21)) fun t56_22 =>
 M.bind (gd (strip t53_20) true (ld none false t56_22)) fun t57_23 =>
 M.bind (gd (strip t53_20) true (fa 2 v3)) fun t58_24 =>
 M.bind (gd (strip t53_20) true (fa 2 t58_24)) fun t59_25 =>
 M.bind (gd (strip t53_20) true (ld none false t59_25)) fun t60_26 =>
 M.bind (gd (strip t53_20) true (C k_ratchetref05_SameVals [(strip t57_23), (strip t60_26)])) fun t61_27 =>
 M.bind (pick (strip t53_20) t61_27 (.bool false)) fun t62_28 =>
 M.bind (gd (strip t62_28) true (fa 2 v2)) fun t64_29 =>
 M.bind (gd (strip t62_28) true (fa 3 t64_29)) fun t65_30 =>
 M.bind (gd (strip t62_28) true (ld none false t65_30)) fun t66_31 =>
 M.bind (gd (strip t62_28) true (fa 2 v3)) fun t67_32 =>
 M.bind (gd (strip t62_28) true (fa 3 t67_32)) fun t68_33 =>
 M.bind (gd (strip t62_28) true (ld none false t68_33)) fun t69_34 =>
 M.bind (gd (strip t62_28) true (C k_ratchetref05_sameFields [(strip t66_31), (strip t69_34)])) fun t70_35 =>
 M.bind (pick (strip t62_28) t70_35 (.bool false)) fun t71_36 =>
 resT t71_36 (M.pure t71_36)) :=
 (atP_step P X _ _ _).trans (by kernel_rfl)
theorem ratchetref05_SameSub_eq (a0 a1 : PV) : C k_ratchetref05_SameSub [a0, a1] =
 trunc (M.bind (bx 6 a0) fun t2_0 =>
 M.bind (bx 6 a1) fun t3_1 =>
 M.bind (fa 0 t2_0) fun t6_2 =>
 M.bind (ld none false t6_2) fun t7_3 =>
 M.bind (fa 0 t3_1) fun t8_4 =>
 M.bind (ld none false t8_4) fun t9_5 =>
 M.bind (bi .neq .bool t7_3 t9_5) fun t10_6 =>
 M.bind (gd (strip t10_6) false (fa 1 t2_0)) fun t12_7 =>
 M.bind (gd (strip t10_6) false (ld none false t12_7)) fun t13_8 =>
 M.bind (gd (strip t10_6) false (lnL t13_8)) fun t14_9 =>
 M.bind (gd (strip t10_6) false (fa 1 t3_1)) fun t15_10 =>
 M.bind (gd (strip t10_6) false (ld none false t15_10)) fun t16_11 =>
 M.bind (gd (strip t10_6) false (lnL t16_11)) fun t17_12 =>
 M.bind (gd (strip t10_6) false (bi .neq .none t14_9 t17_12)) fun t18_13 =>
 M.bind (pick (strip t10_6) (.bool true) t18_13) fun t19_14 =>
 M.bind (gd (strip t19_14) false (fa 2 t2_0)) fun t21_15 =>
 M.bind (gd (strip t19_14) false (fa 0 t21_15)) fun t22_16 =>
 M.bind (gd (strip t19_14) false (ld none false t22_16)) fun t23_17 =>
 M.bind (gd (strip t19_14) false (fa 2 t3_1)) fun t24_18 =>
 M.bind (gd (strip t19_14) false (fa 0 t24_18)) fun t25_19 =>
 M.bind (gd (strip t19_14) false (ld none false t25_19)) fun t26_20 =>
 M.bind (gd (strip t19_14) false (bi .neq .none t23_17 t26_20)) fun t27_21 =>
 M.bind (pick (strip t19_14) (.bool true) t27_21) fun t28_22 =>
 condM t28_22
 (M.pure (.bool false))
 (p_ratchetref05_SameSub_11010 t2_0 t3_1 (.bool false) (.int .i64 0))) := by
 rw [C, callW_eq _ _ rfl]; kernel_rfl
theorem entry_RecType_eq (a0 a1 : PV) : C k_entry_RecType [a0, a1] =
 trunc (M.bind (al [(.slice false true 0 []), (.bool false)]) fun t4_0 =>
 M.bind (C k_entry_read_api_RecType [(strip (strip a0)), (strip (strip a1)), (.fn k_entry_cursor_rec [] [])]) fun t9_1 =>
 M.bind (ex 0 t9_1) fun t10_2 =>
 M.bind (ex 1 (tupDrop 0 t9_1)) fun t11_3 =>
 M.bind (ex 2 (tupDrop 1 (tupDrop 0 t9_1))) fun t12_4 =>
 M.bind (st 2 true t4_0 t10_2) fun _ =>
 M.bind (ld (some 2) true t4_0) fun t0_6 => guardM (!isTup t0_6) (resT t11_3 (resT t12_4 (M.pure (.tup [t0_6, t11_3, t12_4]))))) := by
 rw [C, callW_eq _ _ rfl]; kernel_rfl
noncomputable def p_ratchetref05_SameRec_11010 (v2 v3 v4 v5 : PV) : M PV := atP P X k_ratchetref05_SameRec [1, 1, 0, 1, 0] (mkEnv 39 0 [(2, v2), (3, v3), (4, v4), (5, v5)])
theorem p_ratchetref05_SameRec_11010_eq (v2 v3 v4 v5 : PV) : p_ratchetref05_SameRec_11010 v2 v3 v4 v5 =
 M.bind (fa 0 v2) fun t21_0 =>
 M.bind (ld none false t21_0) fun t22_1 =>
 M.bind (lnL t22_1) fun t23_2 =>
 M.bind (bi .lss .none (strip v5) t23_2) fun t24_3 =>
 condM t24_3
 (M.bind (noPan (fa 0 v2)) fun t27_16 =>
 M.bind (noPan (M.pure (strip v5))) fun t29_17 =>
 M.bind (noPan (fa 0 v3)) fun t32_18 =>
 M.bind (noPan (M.pure (strip v5))) fun t34_19 =>
 M.bind (noPan (ld none false t27_16)) fun t28_20 =>
 M.bind (noPan (iaS 6 t28_20 t29_17)) fun t30_21 =>
 M.bind (noPan (ld (some 6) false t30_21)) fun t31_22 =>
 M.bind (noPan (ld none false t32_18)) fun t33_23 =>
 M.bind (noPan (iaS 6 t33_23 t34_19)) fun t35_24 =>
 M.bind (noPan (ld (some 6) false t35_24)) fun t36_25 =>
 M.bind (noPan (C k_ratchetref05_SameSub [(strip t31_22), (strip t36_25)])) fun t37_26 =>
 M.bind (noPan (un .not t37_26)) fun t38_27 =>
 condM t38_27
 (M.pure (.bool false))
 (M.bind (bi .add .none (strip v5) (.int .i64 1)) fun t26_28 =>
 p_ratchetref05_SameRec_11010 v2 v3 v4 t26_28))
 (M.pure (.bool true)) :=
 (atP_step P X _ _ _).trans (by kernel_rfl)
theorem ratchetref05_SameRec_eq (a0 a1 : PV) : C k_ratchetref05_SameRec [a0, a1] =
 trunc (M.bind (bx 2 a0) fun t2_0 =>
 M.bind (bx 2 a1) fun t3_1 =>
 M.bind (fa 1 t2_0) fun t6_2 =>
 M.bind (ld none false t6_2) fun t7_3 =>
 M.bind (fa 1 t3_1) fun t8_4 =>
 M.bind (ld none false t8_4) fun t9_5 =>
 M.bind (bi .neq .bool t7_3 t9_5) fun t10_6 =>
 M.bind (gd (strip t10_6) false (fa 0 t2_0)) fun t12_7 =>
 M.bind (gd (strip t10_6) false (ld none false t12_7)) fun t13_8 =>
 M.bind (gd (strip t10_6) false (lnL t13_8)) fun t14_9 =>
 M.bind (gd (strip t10_6) false (fa 0 t3_1)) fun t15_10 =>
 M.bind (gd (strip t10_6) false (ld none false t15_10)) fun t16_11 =>
 M.bind (gd (strip t10_6) false (lnL t16_11)) fun t17_12 =>
 M.bind (gd (strip t10_6) false (bi .neq .none t14_9 t17_12)) fun t18_13 =>
 M.bind (pick (strip t10_6) (.bool true) t18_13) fun t19_14 =>
 condM t19_14
 (M.pure (.bool false))
 (p_ratchetref05_SameRec_11010 t2_0 t3_1 (.bool false) (.int .i64 0))) := by
 rw [C, callW_eq _ _ rfl]; kernel_rfl
end Go.Proofs.Ytofbbijagbpicaa.Pi.Q
namespace Go.Proofs.Ytofbbijagbpicaa.Pi.Q
open Go Go.Proofs.Ytofbbijagbpicaa.Pi
set_option linter.unusedVariables false
set_option maxRecDepth 100000
theorem entry_write_eq (a0 : PV) : C k_entry_write [a0] =
 trunc (M.bind (al [(.slice false true 0 [])]) fun t2_0 =>
 M.bind (al [(.int .i64 0)]) fun t3_1 =>
 M.bind (mf k_entry_write_1 [] [t2_0, t3_1]) fun t5_2 =>
 guardM (isPtr t2_0 && isPtr t3_1) <| deferM CD t5_2 []
 (M.bind (bd [(.slice false true 0 [])] []) fun t6_3 =>
 M.bind (bx 1 t6_3) fun t7_4 =>
 M.bind (callV P C (strip a0) [(strip (strip t7_4))]) fun t10_5 =>
 M.bind (nc P (strip t7_4)) fun t12_6 =>
 M.bind (fa 0 t12_6) fun t13_7 =>
 M.bind (ld none true t13_7) fun t14_8 =>
 M.bind (st 1 true t2_0 t14_8) fun _ =>
 M.bind (st 1 false t3_1 (.int .i64 0)) fun _ =>
 M.bind (ld none true t2_0) fun t0_11 => guardM (!isTup t0_11) (M.bind (ld none true t3_1) fun t0_12 => guardM (!isTup t0_12) (M.pure (.tup [t0_11, t0_12]))))
 (M.bind (ld none true t2_0) fun t0_13 => guardM (!isTup t0_13) (M.bind (ld none true t3_1) fun t0_14 => guardM (!isTup t0_14) (M.pure (.tup [t0_13, t0_14]))))) := by
 rw [C, callW_eq _ _ rfl]; kernel_rfl
noncomputable def p_entry_pen_heap_1010 (v0 v1 v22 v23 : PV) : M PV := atP P X k_entry_pen_heap [1, 0, 1, 0] (mkEnv 38 0 [(0, v0), (1, v1), (22, v22), (23, v23)])
theorem p_entry_pen_heap_1010_eq (v0 v1 v22 v23 : PV) : p_entry_pen_heap_1010 v0 v1 v22 v23 =
 M.bind (bi .lss .none v23 (.int .i64 12)) fun t24_0 =>
 condM t24_0
 (M.bind (ixA 12 1 none v22 (strip v23)) fun t26_1 =>
 M.bind (bi .eql .none (strip t26_1) (strip v1)) fun t29_2 =>
 condM t29_2
 (M.bind (cv (.int .u8) true (strip v23)) fun t32_3 =>
 M.bind (bi .add .none (.int .u8 105) t32_3) fun t33_4 =>
 M.bind (C k_entry_pen_byte [(strip (strip v0)), (strip t33_4)]) fun t34_5 =>
 M.pure (.tup []))
 (M.bind (bi .add .none (strip v23) (.int .i64 1)) fun t35_6 =>
 p_entry_pen_heap_1010 v0 v1 v22 (strip t35_6)))
 (M.bind (C k_entry_pen_must [(strip (strip v0)), (.bool false)]) fun t37_7 =>
 M.pure (.tup [])) :=
 (atP_step P X _ _ _).trans (by kernel_rfl)
theorem entry_pen_heap_eq (a0 a1 : PV) : C k_entry_pen_heap [a0, a1] =
 trunc (M.bind (bi .geq .none (strip a1) (.int .i64 0)) fun t7_0 =>
 condM t7_0
 (M.bind (C k_entry_fits [(strip (strip a1))]) fun t10_1 =>
 M.bind (C k_entry_pen_must [(strip (strip a0)), (strip t10_1)]) fun t11_2 =>
 chk
 (M.bind (noPan (M.pure (strip a0))) fun t12_14 =>
 M.bind (noPan (M.pure (strip a0))) fun t13_15 =>
 M.bind (noPan (nc P t13_15)) fun t14_16 =>
 M.bind (noPan (fa 0 t14_16)) fun t15_17 =>
 M.bind (noPan (M.pure (strip a1))) fun t17_18 =>
 M.bind (noPan (C k_leb_PutS [(strip t17_18)])) fun t18_19 =>
 M.bind (noPan (ld none true t15_17)) fun t16_20 =>
 M.bind (noPan (ap true 1 1 t16_20 t18_19)) fun t19_21 =>
 M.bind (noPan (nc P t12_14)) fun t20_22 =>
 M.bind (noPan (fa 0 t20_22)) fun t21_23 =>
 M.bind (noPan (st 1 true t21_23 t19_21)) fun _ =>
 M.pure [a0, a1, .undef, .undef, .undef, .undef, (strip a1), t7_0, (strip a0), (strip a1), t10_1, t11_2, t12_14, t13_15, t14_16, t15_17, (strip t16_20), t17_18, t18_19, (strip t19_21), t20_22, t21_23, .undef, .undef, .undef, .undef, .undef, .undef, .undef, .undef, .undef, .undef, .undef, .undef, .undef, .undef, .undef, .undef])
 (M.bind (noPan (M.pure (strip a0))) fun t12_3 =>
 M.bind (noPan (M.pure (strip a0))) fun t13_4 =>
 M.bind (noPan (nc P t13_4)) fun t14_5 =>
 M.bind (noPan (fa 0 t14_5)) fun t15_6 =>
 M.bind (noPan (M.pure (strip a1))) fun t17_7 =>
 M.bind (noPan (ld none true t15_6)) fun t16_8 =>
 M.bind (noPan (C k_leb_PutS [(strip t17_7)])) fun t18_9 =>
 M.bind (noPan (ap true 1 1 t16_8 t18_9)) fun t19_10 =>
 M.bind (noPan (nc P t12_3)) fun t20_11 =>
 M.bind (noPan (fa 0 t20_11)) fun t21_12 =>
 M.bind (noPan (st 1 true t21_12 t19_10)) fun _ =>
 M.pure [a0, a1, .undef, .undef, .undef, .undef, (strip a1), t7_0, (strip a0), (strip a1), t10_1, t11_2, t12_3, t13_4, t14_5, t15_6, (strip t16_8), t17_7, t18_9, (strip t19_10), t20_11, t21_12, .undef, .undef, .undef, .undef, .undef, .undef, .undef, .undef, .undef, .undef, .undef, .undef, .undef, .undef, .undef, .undef]) <|
 M.bind (noPan (M.pure (strip a0))) fun t12_25 =>
 M.bind (noPan (M.pure (strip a0))) fun t13_26 =>
 M.bind (noPan (nc P t13_26)) fun t14_27 =>
 M.bind (noPan (fa 0 t14_27)) fun t15_28 =>
 M.bind (noPan (M.pure (strip a1))) fun t17_29 =>
 M.bind (noPan (ld none true t15_28)) fun t16_30 =>
 M.bind (noPan (C k_leb_PutS [(strip t17_29)])) fun t18_31 =>
 M.bind (noPan (ap true 1 1 t16_30 t18_31)) fun t19_32 =>
 M.bind (noPan (nc P t12_25)) fun t20_33 =>
 M.bind (noPan (fa 0 t20_33)) fun t21_34 =>
 M.bind (noPan (st 1 true t21_34 t19_32)) fun _ =>
 M.pure (.tup []))
 (M.bind (C k_entry_abstract []) fun t22_36 =>
 p_entry_pen_heap_1010 a0 a1 t22_36 (.int .i64 0))) := by
 rw [C, callW_eq _ _ rfl]; kernel_rfl
theorem entry_PutValType_1_eq (a0 a1 : PV) : C k_entry_PutValType_1 [a0, a1] =
 trunc (M.bind (ld (some 3) false a1) fun t4_0 =>
 M.bind (C k_entry_pen_val [(strip (strip a0)), (strip t4_0)]) fun t5_1 =>
 M.pure (.tup [])) := by
 rw [C, callW_eq _ _ rfl]; kernel_rfl
noncomputable def p_entry_pen_val_111 (v0 v3 : PV) : M PV := atP P X k_entry_pen_val [1, 1, 1] (mkEnv 49 0 [(0, v0), (3, v3)])
theorem p_entry_pen_val_111_eq (v0 v3 : PV) : p_entry_pen_val_111 v0 v3 =
 M.bind (fa 2 v3) fun t46_0 =>
 M.bind (ld none false t46_0) fun t47_1 =>
 M.bind (C k_entry_pen_heap [(strip (strip v0)), (strip t47_1)]) fun t48_2 =>
 M.pure (.tup []) :=
 (atP_step P X _ _ _).trans (by kernel_rfl)
theorem entry_pen_val_eq (a0 a1 : PV) : C k_entry_pen_val [a0, a1] =
 trunc (M.bind (bx 3 a1) fun t3_0 =>
 M.bind (fa 0 t3_0) fun t4_1 =>
 M.bind (ld none false t4_1) fun t5_2 =>
 M.bind (bi .neq .none t5_2 (.int .i64 5)) fun t6_3 =>
 condM t6_3
 (M.bind (fa 0 t3_0) fun t8_4 =>
 M.bind (ld none false t8_4) fun t9_5 =>
 M.bind (bi .geq .none t9_5 (.int .i64 1)) fun t10_6 =>
 M.bind (gd (strip t10_6) true (fa 0 t3_0)) fun t12_7 =>
 M.bind (gd (strip t10_6) true (ld none false t12_7)) fun t13_8 =>
 M.bind (gd (strip t10_6) true (bi .leq .none t13_8 (.int .i64 4))) fun t14_9 =>
 M.bind (pick (strip t10_6) t14_9 (.bool false)) fun t15_10 =>
 M.bind (gd (strip t15_10) true (fa 1 t3_0)) fun t17_11 =>
 M.bind (gd (strip t15_10) true (ld none false t17_11)) fun t18_12 =>
 M.bind (gd (strip t15_10) true (un .not t18_12)) fun t19_13 =>
 M.bind (pick (strip t15_10) t19_13 (.bool false)) fun t20_14 =>
 M.bind (gd (strip t20_14) true (fa 2 t3_0)) fun t22_15 =>
 M.bind (gd (strip t20_14) true (ld none false t22_15)) fun t23_16 =>
 M.bind (gd (strip t20_14) true (bi .eql .none t23_16 (.int .i64 0))) fun t24_17 =>
 M.bind (pick (strip t20_14) t24_17 (.bool false)) fun t25_18 =>
 M.bind (C k_entry_pen_must [(strip (strip a0)), (strip t25_18)]) fun t26_19 =>
 M.bind (fa 0 t3_0) fun t28_20 =>
 M.bind (ld none false t28_20) fun t29_21 =>
 M.bind (cv (.int .u8) true t29_21) fun t30_22 =>
 M.bind (bi .sub .none (.int .u8 128) t30_22) fun t31_23 =>
 M.bind (C k_entry_pen_byte [(strip (strip a0)), (strip t31_23)]) fun t32_24 =>
 M.pure (.tup []))
 (M.bind (fa 1 t3_0) fun t34_25 =>
 M.bind (ld none false t34_25) fun t35_26 =>
 M.bind (un .not t35_26) fun t36_27 =>
 condM t36_27
 (M.bind (C k_entry_pen_byte [(strip (strip a0)), (.int .u8 100)]) fun t38_28 =>
 p_entry_pen_val_111 a0 t3_0)
 (M.bind (fa 2 t3_0) fun t40_29 =>
 M.bind (ld none false t40_29) fun t41_30 =>
 M.bind (bi .geq .none t41_30 (.int .i64 0)) fun t42_31 =>
 condM t42_31
 (M.bind (C k_entry_pen_byte [(strip (strip a0)), (.int .u8 99)]) fun t44_32 =>
 p_entry_pen_val_111 a0 t3_0)
 (p_entry_pen_val_111 a0 t3_0)))) := by
 rw [C, callW_eq _ _ rfl]; kernel_rfl
theorem entry_pen_must_eq (a0 a1 : PV) : C k_entry_pen_must [a0, a1] =
 trunc (M.bind (un .not (strip a1)) fun t5_0 =>
 condM t5_0
 (M.bind (bd [(.int .i64 0), (.int .i64 0)] [(0, 1, (.int .i64 0)), (1, 1, (.int .i64 4))]) fun t6_1 =>
 M.bind (mi y_entry_fault t6_1) fun t7_2 =>
 M.bind (pn t7_2) fun _ =>
 M.pure (.tup []))
 (M.pure (.tup []))) := by
 rw [C, callW_eq _ _ rfl]; kernel_rfl
theorem entry_fits_eq (a0 : PV) : C k_entry_fits [a0] =
 trunc (M.bind (bi .geq .none (strip a0) (.int .i64 0)) fun t4_0 =>
 M.bind (gd (strip t4_0) true (M.pure (strip a0))) fun t6_1 =>
 M.bind (gd (strip t4_0) true (bi .leq .none t6_1 (.int .i64 2147483647))) fun t7_2 =>
 M.bind (pick (strip t4_0) t7_2 (.bool false)) fun t8_3 =>
 resT t8_3 (M.pure t8_3)) := by
 rw [C, callW_eq _ _ rfl]; kernel_rfl
noncomputable def p_leb_PutS_1100 (v0 v2 v3 : PV) : M PV := atP P X k_leb_PutS [1, 1, 0, 0] (mkEnv 24 0 [(0, v0), (2, v2), (3, v3)])
theorem p_leb_PutS_1100_eq (v0 v2 v3 : PV) : p_leb_PutS_1100 v0 v2 v3 =
 M.bind (bi .lss .none (strip v0) (.int .i64 (-64))) fun t5_0 =>
 M.bind (gd (strip t5_0) false (M.pure (strip v0))) fun t7_1 =>
 M.bind (gd (strip t5_0) false (bi .gtr .none t7_1 (.int .i64 63))) fun t8_2 =>
 M.bind (pick (strip t5_0) (.bool true) t8_2) fun t9_3 =>
 condM t9_3
 (M.bind (cv (.int .u8) true (strip v0)) fun t14_4 =>
 M.bind (bi .or .none t14_4 (.int .u8 128)) fun t15_5 =>
 M.bind (bs true none [t15_5]) fun t16_6 =>
 M.bind (ap true 1 1 v3 t16_6) fun t17_7 =>
 M.bind (bi .shr .none (strip v0) (.int .u64 7)) fun t11_8 =>
 p_leb_PutS_1100 t11_8 v2 t17_7)
 (M.bind (cv (.int .u8) true (strip v0)) fun t20_9 =>
 M.bind (bi .and .none t20_9 (.int .u8 127)) fun t21_10 =>
 M.bind (bs true none [t21_10]) fun t22_11 =>
 M.bind (ap true 1 1 v3 t22_11) fun t23_12 =>
 resT t23_12 (M.pure t23_12)) :=
 (atP_step P X _ _ _).trans (by kernel_rfl)
theorem leb_PutS_eq (a0 : PV) : C k_leb_PutS [a0] =
 trunc (p_leb_PutS_1100 a0 (.slice false true 0 []) (.slice false true 0 [])) := by
 rw [C, callW_eq _ _ rfl]; kernel_rfl
theorem entry_pen_byte_eq (a0 a1 : PV) : C k_entry_pen_byte [a0, a1] =
 trunc (M.bind (nc P (strip a0)) fun t6_0 =>
 M.bind (fa 0 t6_0) fun t7_1 =>
 M.bind (ld none true t7_1) fun t8_2 =>
 M.bind (bs true none [(strip a1)]) fun t10_3 =>
 M.bind (ap true 1 1 t8_2 t10_3) fun t11_4 =>
 M.bind (nc P (strip a0)) fun t12_5 =>
 M.bind (fa 0 t12_5) fun t13_6 =>
 M.bind (st 1 true t13_6 t11_4) fun _ =>
 M.pure (.tup [])) := by
 rw [C, callW_eq _ _ rfl]; kernel_rfl
theorem entry_PutRecType_1_eq (a0 a1 : PV) : C k_entry_PutRecType_1 [a0, a1] =
 trunc (M.bind (fa 0 a1) fun t3_0 =>
 M.bind (ld none false t3_0) fun t4_1 =>
 M.bind (lnL t4_1) fun t5_2 =>
 M.bind (bi .eql .none t5_2 (.int .i64 1)) fun t6_3 =>
 condM t6_3
 (M.bind (fa 0 a1) fun t8_4 =>
 M.bind (ld none false t8_4) fun t9_5 =>
 M.bind (iaS 6 t9_5 (.int .i64 0)) fun t10_6 =>
 M.bind (ld (some 6) false t10_6) fun t11_7 =>
 M.bind (C k_entry_pen_sub [(strip (strip a0)), (strip t11_7)]) fun t12_8 =>
 M.pure (.tup []))
 (M.bind (C k_entry_pen_byte [(strip (strip a0)), (.int .u8 78)]) fun t14_9 =>
 M.bind (fa 0 a1) fun t16_10 =>
 M.bind (ld none false t16_10) fun t17_11 =>
 M.bind (mf k_entry_pen_sub [(strip a0)] []) fun t19_12 =>
 M.bind (C k_entry_each_api_SubType [(strip (strip a0)), (strip t17_11), (.int .i64 10000), (strip t19_12)]) fun t20_13 =>
 M.pure (.tup []))) := by
 rw [C, callW_eq _ _ rfl]; kernel_rfl
noncomputable def p_entry_pen_sub_11 (v0 v3 : PV) : M PV := atP P X k_entry_pen_sub [1, 1] (mkEnv 34 0 [(0, v0), (3, v3)])
theorem p_entry_pen_sub_11_eq (v0 v3 : PV) : p_entry_pen_sub_11 v0 v3 =
 M.bind (fa 1 v3) fun t25_0 =>
 M.bind (ld none false t25_0) fun t26_1 =>
 M.bind (mf k_entry_pen_index [(strip v0)] []) fun t28_2 =>
 M.bind (C k_entry_each_int [(strip (strip v0)), (strip t26_1), (.int .i64 1000), (strip t28_2)]) fun t29_3 =>
 M.bind (fa 2 v3) fun t31_4 =>
 M.bind (ld (some 4) false t31_4) fun t32_5 =>
 M.bind (C k_entry_pen_comp [(strip (strip v0)), (strip t32_5)]) fun t33_6 =>
 M.pure (.tup []) :=
 (atP_step P X _ _ _).trans (by kernel_rfl)
theorem entry_pen_sub_eq (a0 a1 : PV) : C k_entry_pen_sub [a0, a1] =
 trunc (M.bind (bx 6 a1) fun t3_0 =>
 M.bind (fa 0 t3_0) fun t7_1 =>
 M.bind (ld none false t7_1) fun t8_2 =>
 M.bind (gd (strip t8_2) true (fa 1 t3_0)) fun t10_3 =>
 M.bind (gd (strip t8_2) true (ld none false t10_3)) fun t11_4 =>
 M.bind (gd (strip t8_2) true (lnL t11_4)) fun t12_5 =>
 M.bind (gd (strip t8_2) true (bi .eql .none t12_5 (.int .i64 0))) fun t13_6 =>
 M.bind (pick (strip t8_2) t13_6 (.bool false)) fun t14_7 =>
 condM t14_7
 (M.bind (fa 2 t3_0) fun t16_8 =>
 M.bind (ld (some 4) false t16_8) fun t17_9 =>
 M.bind (C k_entry_pen_comp [(strip (strip a0)), (strip t17_9)]) fun t18_10 =>
 M.pure (.tup []))
 (M.bind (fa 0 t3_0) fun t20_11 =>
 M.bind (ld none true t20_11) fun t21_12 =>
 condM t21_12
 (M.bind (C k_entry_pen_byte [(strip (strip a0)), (.int .u8 79)]) fun t23_13 =>
 p_entry_pen_sub_11 a0 t3_0)
 (M.bind (C k_entry_pen_byte [(strip (strip a0)), (.int .u8 80)]) fun t5_14 =>
 p_entry_pen_sub_11 a0 t3_0))) := by
 rw [C, callW_eq _ _ rfl]; kernel_rfl
noncomputable def p_entry_each_api_SubType_1 (v0 v1 v3 : PV) : M PV := atP P X k_entry_each_api_SubType [1] (mkEnv 31 0 [(0, v0), (1, v1), (3, v3)])
noncomputable def p_entry_each_api_SubType_1110 (v3 v21 v22 v23 : PV) : M PV := atP P X k_entry_each_api_SubType [1, 1, 1, 0] (mkEnv 31 0 [(3, v3), (21, v21), (22, v22), (23, v23)])
theorem p_entry_each_api_SubType_1_eq (v0 v1 v3 : PV) : p_entry_each_api_SubType_1 v0 v1 v3 =
 M.bind (lnL (strip v1)) fun t18_0 =>
 M.bind (cv (.int .u64) true t18_0) fun t19_1 =>
 M.bind (C k_entry_pen_u [(strip (strip v0)), (strip t19_1)]) fun t20_2 =>
 M.bind (lnL (strip v1)) fun t22_3 =>
 p_entry_each_api_SubType_1110 v3 (strip v1) t22_3 (.int .i64 0) :=
 (atP_step P X _ _ _).trans (by kernel_rfl)
theorem p_entry_each_api_SubType_1110_eq (v3 v21 v22 v23 : PV) : p_entry_each_api_SubType_1110 v3 v21 v22 v23 =
 M.bind (bi .lss .none v23 v22) fun t24_0 =>
 condM t24_0
 (M.bind (iaS 6 v21 v23) fun t25_1 =>
 M.bind (ld (some 6) true t25_1) fun t26_2 =>
 M.bind (al [(.bool false), (.slice false true 0 []), (.int .i64 0), (.slice false true 0 []), (.slice false true 0 []), (.slice false true 0 [])]) fun t9_3 =>
 M.bind (st 6 true t9_3 t26_2) fun _ =>
 M.bind (ld (some 6) false t9_3) fun t28_5 =>
 M.bind (callV P C (strip v3) [(strip t28_5)]) fun t29_6 =>
 M.bind (bi .add .none v23 (.int .i64 1)) fun t30_7 =>
 p_entry_each_api_SubType_1110 v3 v21 v22 (strip t30_7))
 (M.pure (.tup [])) :=
 (atP_step P X _ _ _).trans (by kernel_rfl)
theorem entry_each_api_SubType_eq (a0 a1 a2 a3 : PV) : C k_entry_each_api_SubType [a0, a1, a2, a3] =
 trunc (M.bind (lnL (strip a1)) fun t11_0 =>
 M.bind (bi .gtr .none t11_0 (strip a2)) fun t13_1 =>
 condM t13_1
 (M.bind (bd [(.int .i64 0), (.int .i64 0)] [(0, 1, (.int .i64 0)), (1, 1, (.int .i64 2))]) fun t14_2 =>
 M.bind (mi y_entry_fault t14_2) fun t15_3 =>
 M.bind (pn t15_3) fun _ =>
 p_entry_each_api_SubType_1 a0 a1 a3)
 (p_entry_each_api_SubType_1 a0 a1 a3)) := by
 rw [C, callW_eq _ _ rfl]; kernel_rfl
theorem entry_cursor_heap_eq (a0 : PV) : C k_entry_cursor_heap [a0] =
 trunc (M.bind (C k_entry_cursor_look [(strip (strip a0))]) fun t5_0 =>
 M.bind (C k_entry_named [(strip t5_0)]) fun t6_1 =>
 M.bind (bi .neq .none (strip t6_1) (.int .i64 0)) fun t8_2 =>
 condM t8_2
 (M.bind (nc P (strip a0)) fun t10_3 =>
 M.bind (fa 1 t10_3) fun t11_4 =>
 M.bind (ld none false t11_4) fun t12_5 =>
 M.bind (bi .add .none t12_5 (.int .i64 1)) fun t13_6 =>
 M.bind (nc P (strip a0)) fun t14_7 =>
 M.bind (fa 1 t14_7) fun t15_8 =>
 M.bind (st 1 true t15_8 t13_6) fun _ =>
 resT t6_1 (M.pure t6_1))
 (M.bind (C k_entry_cursor_s33 [(strip (strip a0))]) fun t18_10 =>
 resT t18_10 (M.pure t18_10))) := by
 rw [C, callW_eq _ _ rfl]; kernel_rfl
end Go.Proofs.Ytofbbijagbpicaa.Pi.Q
namespace Go.Proofs.Ytofbbijagbpicaa.Pi.Q
open Go Go.Proofs.Ytofbbijagbpicaa.Pi
set_option linter.unusedVariables false
set_option maxRecDepth 100000
noncomputable def p_entry_cursor_ref_1111 (v0 v2 v3 : PV) : M PV := atP P X k_entry_cursor_ref [1, 1, 1, 1] (mkEnv 44 0 [(0, v0), (2, v2), (3, v3)])
theorem p_entry_cursor_ref_1111_eq (v0 v2 v3 : PV) : p_entry_cursor_ref_1111 v0 v2 v3 =
 M.bind (nc P (strip v0)) fun t33_0 =>
 M.bind (fa 1 t33_0) fun t34_1 =>
 M.bind (ld none false t34_1) fun t35_2 =>
 M.bind (bi .add .none t35_2 (.int .i64 1)) fun t36_3 =>
 M.bind (nc P (strip v0)) fun t37_4 =>
 M.bind (fa 1 t37_4) fun t38_5 =>
 M.bind (st 1 true t38_5 t36_3) fun _ =>
 M.bind (bi .eql .none (strip v3) (.int .u8 99)) fun t40_7 =>
 M.bind (C k_entry_cursor_heap [(strip (strip v0))]) fun t42_8 =>
 M.bind (bd [(.int .i64 0), (.bool false), (.int .i64 0)] [(0, 1, (.int .i64 5)), (1, 1, t40_7), (2, 1, t42_8)]) fun t43_9 =>
 M.bind (st 3 true v2 t43_9) fun _ =>
 M.bind (ld (some 3) true v2) fun t0_11 => guardM (!isTup t0_11) (M.pure t0_11) :=
 (atP_step P X _ _ _).trans (by kernel_rfl)
theorem entry_cursor_ref_eq (a0 : PV) : C k_entry_cursor_ref [a0] =
 trunc (M.bind (al [(.int .i64 0), (.bool false), (.int .i64 0)]) fun t2_0 =>
 M.bind (C k_entry_cursor_look [(strip (strip a0))]) fun t6_1 =>
 M.bind (C k_entry_named [(strip (strip t6_1))]) fun t8_2 =>
 M.bind (bi .neq .none (strip t8_2) (.int .i64 0)) fun t10_3 =>
 condM t10_3
 (M.bind (nc P (strip a0)) fun t12_4 =>
 M.bind (fa 1 t12_4) fun t13_5 =>
 M.bind (ld none false t13_5) fun t14_6 =>
 M.bind (bi .add .none t14_6 (.int .i64 1)) fun t15_7 =>
 M.bind (nc P (strip a0)) fun t16_8 =>
 M.bind (fa 1 t16_8) fun t17_9 =>
 M.bind (st 1 true t17_9 t15_7) fun _ =>
 M.bind (bd [(.int .i64 0), (.bool false), (.int .i64 0)] [(0, 1, (.int .i64 5)), (1, 1, (.bool true)), (2, 1, (strip t8_2))]) fun t19_11 =>
 M.bind (st 3 true t2_0 t19_11) fun _ =>
 M.bind (ld (some 3) true t2_0) fun t0_13 => guardM (!isTup t0_13) (M.pure t0_13))
 (M.bind (bi .neq .none (strip t6_1) (.int .u8 99)) fun t21_14 =>
 M.bind (gd (strip t21_14) true (M.pure (strip t6_1))) fun t23_15 =>
 M.bind (gd (strip t21_14) true (bi .neq .none t23_15 (.int .u8 100))) fun t24_16 =>
 M.bind (pick (strip t21_14) t24_16 (.bool false)) fun t25_17 =>
 condM t25_17
 (M.bind (nc P (strip a0)) fun t28_18 =>
 M.bind (fa 1 t28_18) fun t29_19 =>
 M.bind (ld none false t29_19) fun t30_20 =>
 M.bind (C k_entry_cursor_fail [(strip (strip a0)), (strip t30_20), (.int .i64 4)]) fun t31_21 =>
 p_entry_cursor_ref_1111 a0 t2_0 t6_1)
 (p_entry_cursor_ref_1111 a0 t2_0 t6_1))) := by
 rw [C, callW_eq _ _ rfl]; kernel_rfl
noncomputable def p_entry_cursor_val_111 (v0 v2 : PV) : M PV := atP P X k_entry_cursor_val [1, 1, 1] (mkEnv 35 0 [(0, v0), (2, v2)])
theorem p_entry_cursor_val_111_eq (v0 v2 : PV) : p_entry_cursor_val_111 v0 v2 =
 M.bind (C k_entry_cursor_ref [(strip (strip v0))]) fun t34_0 =>
 M.bind (st 3 true v2 t34_0) fun _ =>
 M.bind (ld (some 3) true v2) fun t0_2 => guardM (!isTup t0_2) (M.pure t0_2) :=
 (atP_step P X _ _ _).trans (by kernel_rfl)
theorem entry_cursor_val_eq (a0 : PV) : C k_entry_cursor_val [a0] =
 trunc (M.bind (al [(.int .i64 0), (.bool false), (.int .i64 0)]) fun t2_0 =>
 M.bind (C k_entry_cursor_look [(strip (strip a0))]) fun t5_1 =>
 M.bind (bi .eql .none (strip t5_1) (.int .u8 123)) fun t8_2 =>
 condM t8_2
 (M.bind (nc P (strip a0)) fun t11_3 =>
 M.bind (fa 1 t11_3) fun t12_4 =>
 M.bind (ld none false t12_4) fun t13_5 =>
 M.bind (C k_entry_cursor_fail [(strip (strip a0)), (strip t13_5), (.int .i64 8)]) fun t14_6 =>
 p_entry_cursor_val_111 a0 t2_0)
 (M.bind (bi .geq .none (strip t5_1) (.int .u8 124)) fun t17_7 =>
 M.bind (gd (strip t17_7) true (M.pure (strip t5_1))) fun t19_8 =>
 M.bind (gd (strip t17_7) true (bi .leq .none t19_8 (.int .u8 127))) fun t20_9 =>
 M.bind (pick (strip t17_7) t20_9 (.bool false)) fun t21_10 =>
 condM t21_10
 (M.bind (nc P (strip a0)) fun t23_11 =>
 M.bind (fa 1 t23_11) fun t24_12 =>
 M.bind (ld none false t24_12) fun t25_13 =>
 M.bind (bi .add .none t25_13 (.int .i64 1)) fun t26_14 =>
 M.bind (nc P (strip a0)) fun t27_15 =>
 M.bind (fa 1 t27_15) fun t28_16 =>
 M.bind (st 1 true t28_16 t26_14) fun _ =>
 M.bind (cv (.int .i64) true (strip t5_1)) fun t30_18 =>
 M.bind (bi .sub .none (.int .i64 128) t30_18) fun t31_19 =>
 M.bind (bd [(.int .i64 0), (.bool false), (.int .i64 0)] [(0, 1, t31_19)]) fun t32_20 =>
 M.bind (st 3 true t2_0 t32_20) fun _ =>
 M.bind (ld (some 3) true t2_0) fun t0_22 => guardM (!isTup t0_22) (M.pure t0_22))
 (p_entry_cursor_val_111 a0 t2_0))) := by
 rw [C, callW_eq _ _ rfl]; kernel_rfl
theorem entry_cursor_vals_eq (a0 : PV) : C k_entry_cursor_vals [a0] =
 trunc (M.bind (mf k_entry_cursor_val [(strip a0)] []) fun t5_0 =>
 M.bind (C k_entry_list_api_ValType [(strip (strip a0)), (.int .u32 1000), (strip t5_0)]) fun t6_1 =>
 resT t6_1 (M.pure t6_1)) := by
 rw [C, callW_eq _ _ rfl]; kernel_rfl
noncomputable def p_entry_cursor_field_111 (v0 v2 v3 : PV) : M PV := atP P X k_entry_cursor_field [1, 1, 1] (mkEnv 36 0 [(0, v0), (2, v2), (3, v3)])
theorem p_entry_cursor_field_111_eq (v0 v2 v3 : PV) : p_entry_cursor_field_111 v0 v2 v3 =
 M.bind (C k_entry_cursor_small [(strip (strip v0)), (.int .u8 1)]) fun t32_0 =>
 M.bind (bi .eql .none t32_0 (.int .u8 1)) fun t33_1 =>
 M.bind (fa 3 v3) fun t34_2 =>
 M.bind (st 1 true t34_2 t33_1) fun _ =>
 M.bind (ld (some 4) true v3) fun t35_4 =>
 M.bind (st 4 true v2 t35_4) fun _ =>
 M.bind (ld (some 4) true v2) fun t0_6 => guardM (!isTup t0_6) (M.pure t0_6) :=
 (atP_step P X _ _ _).trans (by kernel_rfl)
theorem entry_cursor_field_eq (a0 : PV) : C k_entry_cursor_field [a0] =
 trunc (M.bind (al [(.int .i64 0), (.bool false), (.int .i64 0), (.bool false)]) fun t2_0 =>
 M.bind (al [(.int .i64 0), (.bool false), (.int .i64 0), (.bool false)]) fun t3_1 =>
 M.bind (C k_entry_cursor_look [(strip (strip a0))]) fun t5_2 =>
 M.bind (bi .eql .none t5_2 (.int .u8 120)) fun t10_3 =>
 condM t10_3
 (M.bind (fa 0 t3_1) fun t11_4 =>
 M.bind (fa 0 t11_4) fun t12_5 =>
 M.bind (st 1 false t12_5 (.int .i64 6)) fun _ =>
 M.bind (nc P (strip a0)) fun t14_7 =>
 M.bind (fa 1 t14_7) fun t15_8 =>
 M.bind (ld none false t15_8) fun t16_9 =>
 M.bind (bi .add .none t16_9 (.int .i64 1)) fun t17_10 =>
 M.bind (nc P (strip a0)) fun t18_11 =>
 M.bind (fa 1 t18_11) fun t19_12 =>
 M.bind (st 1 true t19_12 t17_10) fun _ =>
 p_entry_cursor_field_111 a0 t2_0 t3_1)
 (M.bind (bi .eql .none t5_2 (.int .u8 119)) fun t21_14 =>
 condM t21_14
 (M.bind (fa 0 t3_1) fun t22_15 =>
 M.bind (fa 0 t22_15) fun t23_16 =>
 M.bind (st 1 false t23_16 (.int .i64 7)) fun _ =>
 M.bind (nc P (strip a0)) fun t25_18 =>
 M.bind (fa 1 t25_18) fun t26_19 =>
 M.bind (ld none false t26_19) fun t27_20 =>
 M.bind (bi .add .none t27_20 (.int .i64 1)) fun t28_21 =>
 M.bind (nc P (strip a0)) fun t29_22 =>
 M.bind (fa 1 t29_22) fun t30_23 =>
 M.bind (st 1 true t30_23 t28_21) fun _ =>
 p_entry_cursor_field_111 a0 t2_0 t3_1)
 (M.bind (C k_entry_cursor_val [(strip (strip a0))]) fun t7_25 =>
 M.bind (fa 0 t3_1) fun t8_26 =>
 M.bind (st 3 true t8_26 t7_25) fun _ =>
 p_entry_cursor_field_111 a0 t2_0 t3_1))) := by
 rw [C, callW_eq _ _ rfl]; kernel_rfl
theorem entry_cursor_comp_eq (a0 : PV) : C k_entry_cursor_comp [a0] =
 trunc (M.bind (al [(.int .i64 0), (.slice false true 0 []), (.slice false true 0 []), (.slice false true 0 [])]) fun t2_0 =>
 M.bind (C k_entry_cursor_look [(strip (strip a0))]) fun t6_1 =>
 M.bind (nc P (strip a0)) fun t8_2 =>
 M.bind (fa 1 t8_2) fun t9_3 =>
 M.bind (ld none false t9_3) fun t10_4 =>
 M.bind (bi .add .none t10_4 (.int .i64 1)) fun t11_5 =>
 M.bind (nc P (strip a0)) fun t12_6 =>
 M.bind (fa 1 t12_6) fun t13_7 =>
 M.bind (st 1 true t13_7 t11_5) fun _ =>
 M.bind (bi .eql .none (strip t6_1) (.int .u8 96)) fun t16_9 =>
 condM t16_9
 (M.bind (C k_entry_cursor_vals [(strip (strip a0))]) fun t18_10 =>
 M.bind (bd [(.int .i64 0), (.slice false true 0 []), (.slice false true 0 []), (.slice false true 0 [])] [(0, 1, (.int .i64 1)), (1, 1, t18_10)]) fun t19_11 =>
 M.bind (al [(.int .i64 0), (.slice false true 0 []), (.slice false true 0 []), (.slice false true 0 [])]) fun t4_12 =>
 M.bind (st 4 true t4_12 t19_11) fun _ =>
 M.bind (C k_entry_cursor_vals [(strip (strip a0))]) fun t21_14 =>
 M.bind (fa 2 t4_12) fun t22_15 =>
 M.bind (st 1 true t22_15 t21_14) fun _ =>
 M.bind (ld (some 4) true t4_12) fun t23_17 =>
 M.bind (st 4 true t2_0 t23_17) fun _ =>
 M.bind (ld (some 4) true t2_0) fun t0_19 => guardM (!isTup t0_19) (M.pure t0_19))
 (M.bind (bi .eql .none (strip t6_1) (.int .u8 95)) fun t25_20 =>
 condM t25_20
 (M.bind (mf k_entry_cursor_field [(strip a0)] []) fun t28_21 =>
 M.bind (C k_entry_list_api_Field [(strip (strip a0)), (.int .u32 10000), (strip t28_21)]) fun t29_22 =>
 M.bind (bd [(.int .i64 0), (.slice false true 0 []), (.slice false true 0 []), (.slice false true 0 [])] [(0, 1, (.int .i64 2)), (3, 1, t29_22)]) fun t30_23 =>
 M.bind (st 4 true t2_0 t30_23) fun _ =>
 M.bind (ld (some 4) true t2_0) fun t0_25 => guardM (!isTup t0_25) (M.pure t0_25))
 (M.bind (bi .eql .none (strip t6_1) (.int .u8 94)) fun t32_26 =>
 condM t32_26
 (M.bind (C k_entry_cursor_field [(strip (strip a0))]) fun t34_27 =>
 M.bind (bs true (some 4) [t34_27]) fun t35_28 =>
 M.bind (bd [(.int .i64 0), (.slice false true 0 []), (.slice false true 0 []), (.slice false true 0 [])] [(0, 1, (.int .i64 3)), (3, 1, t35_28)]) fun t36_29 =>
 M.bind (st 4 true t2_0 t36_29) fun _ =>
 M.bind (ld (some 4) true t2_0) fun t0_31 => guardM (!isTup t0_31) (M.pure t0_31))
 (M.bind (nc P (strip a0)) fun t39_32 =>
 M.bind (fa 1 t39_32) fun t40_33 =>
 M.bind (ld none false t40_33) fun t41_34 =>
 M.bind (bi .sub .none t41_34 (.int .i64 1)) fun t42_35 =>
 M.bind (C k_entry_cursor_fail [(strip (strip a0)), (strip t42_35), (.int .i64 4)]) fun t43_36 =>
 M.bind (bd [(.int .i64 0), (.slice false true 0 []), (.slice false true 0 []), (.slice false true 0 [])] []) fun t44_37 =>
 M.bind (st 4 true t2_0 t44_37) fun _ =>
 M.bind (ld (some 4) true t2_0) fun t0_39 => guardM (!isTup t0_39) (M.pure t0_39))))) := by
 rw [C, callW_eq _ _ rfl]; kernel_rfl
noncomputable def p_ratchetref05_SameVals_11010 (v0 v1 v4 v5 : PV) : M PV := atP P X k_ratchetref05_SameVals [1, 1, 0, 1, 0] (mkEnv 27 0 [(0, v0), (1, v1), (4, v4), (5, v5)])
theorem p_ratchetref05_SameVals_11010_eq (v0 v1 v4 v5 : PV) : p_ratchetref05_SameVals_11010 v0 v1 v4 v5 =
 M.bind (lnL (strip v0)) fun t13_0 =>
 M.bind (bi .lss .none (strip v5) t13_0) fun t14_1 =>
 condM t14_1
 (M.bind (noPan (M.pure (strip v0))) fun t17_12 =>
 M.bind (noPan (M.pure (strip v5))) fun t18_13 =>
 M.bind (noPan (iaS 3 t17_12 t18_13)) fun t19_14 =>
 M.bind (noPan (M.pure (strip v1))) fun t21_15 =>
 M.bind (noPan (M.pure (strip v5))) fun t22_16 =>
 M.bind (noPan (iaS 3 t21_15 t22_16)) fun t23_17 =>
 M.bind (noPan (ld (some 3) false t19_14)) fun t20_18 =>
 M.bind (noPan (ld (some 3) false t23_17)) fun t24_19 =>
 M.bind (noPan (C k_ratchetref05_Same [(strip t20_18), (strip t24_19)])) fun t25_20 =>
 M.bind (noPan (un .not t25_20)) fun t26_21 =>
 condM t26_21
 (M.pure (.bool false))
 (M.bind (bi .add .none (strip v5) (.int .i64 1)) fun t16_22 =>
 p_ratchetref05_SameVals_11010 v0 v1 v4 t16_22))
 (M.pure (.bool true)) :=
 (atP_step P X _ _ _).trans (by kernel_rfl)
theorem ratchetref05_SameVals_eq (a0 a1 : PV) : C k_ratchetref05_SameVals [a0, a1] =
 trunc (M.bind (lnL (strip a0)) fun t7_0 =>
 M.bind (lnL (strip a1)) fun t9_1 =>
 M.bind (bi .neq .none t7_0 t9_1) fun t10_2 =>
 condM t10_2
 (M.pure (.bool false))
 (p_ratchetref05_SameVals_11010 a0 a1 (.bool false) (.int .i64 0))) := by
 rw [C, callW_eq _ _ rfl]; kernel_rfl
noncomputable def p_ratchetref05_sameFields_11010 (v0 v1 v4 v5 : PV) : M PV := atP P X k_ratchetref05_sameFields [1, 1, 0, 1, 0] (mkEnv 42 0 [(0, v0), (1, v1), (4, v4), (5, v5)])
theorem p_ratchetref05_sameFields_11010_eq (v0 v1 v4 v5 : PV) : p_ratchetref05_sameFields_11010 v0 v1 v4 v5 =
 M.bind (lnL (strip v0)) fun t13_0 =>
 M.bind (bi .lss .none (strip v5) t13_0) fun t14_1 =>
 condM t14_1
 (M.bind (noPan (M.pure (strip v0))) fun t17_27 =>
 M.bind (noPan (M.pure (strip v5))) fun t18_28 =>
 M.bind (noPan (iaS 4 t17_27 t18_28)) fun t19_29 =>
 M.bind (noPan (fa 3 t19_29)) fun t20_30 =>
 M.bind (noPan (M.pure (strip v1))) fun t22_31 =>
 M.bind (noPan (M.pure (strip v5))) fun t23_32 =>
 M.bind (noPan (iaS 4 t22_31 t23_32)) fun t24_33 =>
 M.bind (noPan (fa 3 t24_33)) fun t25_34 =>
 M.bind (noPan (ld none false t20_30)) fun t21_35 =>
 M.bind (noPan (ld none false t25_34)) fun t26_36 =>
 M.bind (noPan (bi .neq .bool t21_35 t26_36)) fun t27_37 =>
 M.bind (noPan (M.pure (strip t27_37))) fun t28_38 =>
 M.bind (noPan (gd t28_38 false (M.pure (strip v0)))) fun t29_39 =>
 M.bind (noPan (gd t28_38 false (M.pure (strip v5)))) fun t30_40 =>
 M.bind (noPan (gd t28_38 false (iaS 4 t29_39 t30_40))) fun t31_41 =>
 M.bind (noPan (gd t28_38 false (fa 0 t31_41))) fun t32_42 =>
 M.bind (noPan (gd t28_38 false (M.pure (strip v1)))) fun t34_43 =>
 M.bind (noPan (gd t28_38 false (M.pure (strip v5)))) fun t35_44 =>
 M.bind (noPan (gd t28_38 false (iaS 4 t34_43 t35_44))) fun t36_45 =>
 M.bind (noPan (gd t28_38 false (fa 0 t36_45))) fun t37_46 =>
 M.bind (noPan (gd t28_38 false (ld (some 3) false t32_42))) fun t33_47 =>
 M.bind (noPan (gd t28_38 false (ld (some 3) false t37_46))) fun t38_48 =>
 M.bind (noPan (gd t28_38 false (C k_ratchetref05_Same [(strip t33_47), (strip t38_48)]))) fun t39_49 =>
 M.bind (noPan (gd t28_38 false (un .not t39_49))) fun t40_50 =>
 M.bind (noPan (pick t28_38 (.bool true) t40_50)) fun t41_51 =>
 condM t41_51
 (M.pure (.bool false))
 (M.bind (bi .add .none (strip v5) (.int .i64 1)) fun t16_52 =>
 p_ratchetref05_sameFields_11010 v0 v1 v4 t16_52))
 (M.pure (.bool true)) :=
 (atP_step P X _ _ _).trans (by kernel_rfl)
theorem ratchetref05_sameFields_eq (a0 a1 : PV) : C k_ratchetref05_sameFields [a0, a1] =
 trunc (M.bind (lnL (strip a0)) fun t7_0 =>
 M.bind (lnL (strip a1)) fun t9_1 =>
 M.bind (bi .neq .none t7_0 t9_1) fun t10_2 =>
 condM t10_2
 (M.pure (.bool false))
 (p_ratchetref05_sameFields_11010 a0 a1 (.bool false) (.int .i64 0))) := by
 rw [C, callW_eq _ _ rfl]; kernel_rfl
end Go.Proofs.Ytofbbijagbpicaa.Pi.Q
namespace Go.Proofs.Ytofbbijagbpicaa.Pi.Q
open Go Go.Proofs.Ytofbbijagbpicaa.Pi
set_option linter.unusedVariables false
set_option maxRecDepth 100000
theorem entry_cursor_sub_eq (a0 : PV) : C k_entry_cursor_sub [a0] =
 trunc (M.bind (al [(.bool false), (.slice false true 0 []), (.int .i64 0), (.slice false true 0 []), (.slice false true 0 []), (.slice false true 0 [])]) fun t2_0 =>
 M.bind (C k_entry_cursor_look [(strip (strip a0))]) fun t6_1 =>
 M.bind (bi .neq .none (strip t6_1) (.int .u8 80)) fun t8_2 =>
 M.bind (gd (strip t8_2) true (M.pure (strip t6_1))) fun t10_3 =>
 M.bind (gd (strip t8_2) true (bi .neq .none t10_3 (.int .u8 79))) fun t11_4 =>
 M.bind (pick (strip t8_2) t11_4 (.bool false)) fun t12_5 =>
 condM t12_5
 (M.bind (C k_entry_cursor_comp [(strip (strip a0))]) fun t14_6 =>
 M.bind (bd [(.bool false), (.slice false true 0 []), (.int .i64 0), (.slice false true 0 []), (.slice false true 0 []), (.slice false true 0 [])] [(0, 1, (.bool true)), (2, 4, t14_6)]) fun t15_7 =>
 M.bind (st 6 true t2_0 t15_7) fun _ =>
 M.bind (ld (some 6) true t2_0) fun t0_9 => guardM (!isTup t0_9) (M.pure t0_9))
 (M.bind (nc P (strip a0)) fun t17_10 =>
 M.bind (fa 1 t17_10) fun t18_11 =>
 M.bind (ld none false t18_11) fun t19_12 =>
 M.bind (bi .add .none t19_12 (.int .i64 1)) fun t20_13 =>
 M.bind (nc P (strip a0)) fun t21_14 =>
 M.bind (fa 1 t21_14) fun t22_15 =>
 M.bind (st 1 true t22_15 t20_13) fun _ =>
 M.bind (bi .eql .none (strip t6_1) (.int .u8 79)) fun t24_17 =>
 M.bind (mf k_entry_cursor_index [(strip a0)] []) fun t27_18 =>
 M.bind (C k_entry_list_int [(strip (strip a0)), (.int .u32 1000), (strip t27_18)]) fun t28_19 =>
 M.bind (bd [(.bool false), (.slice false true 0 []), (.int .i64 0), (.slice false true 0 []), (.slice false true 0 []), (.slice false true 0 [])] [(0, 1, t24_17), (1, 1, t28_19)]) fun t29_20 =>
 M.bind (al [(.bool false), (.slice false true 0 []), (.int .i64 0), (.slice false true 0 []), (.slice false true 0 []), (.slice false true 0 [])]) fun t4_21 =>
 M.bind (st 6 true t4_21 t29_20) fun _ =>
 M.bind (C k_entry_cursor_comp [(strip (strip a0))]) fun t31_23 =>
 M.bind (fa 2 t4_21) fun t32_24 =>
 M.bind (st 4 true t32_24 t31_23) fun _ =>
 M.bind (ld (some 6) true t4_21) fun t33_26 =>
 M.bind (st 6 true t2_0 t33_26) fun _ =>
 M.bind (ld (some 6) true t2_0) fun t0_28 => guardM (!isTup t0_28) (M.pure t0_28))) := by
 rw [C, callW_eq _ _ rfl]; kernel_rfl
theorem entry_read_api_RecType_eq (a0 a1 a2 : PV) : C k_entry_read_api_RecType [a0, a1, a2] =
 trunc (M.bind (al [(.slice false true 0 []), (.bool false)]) fun t6_0 =>
 M.bind (al [(.int .i64 0)]) fun t7_1 =>
 M.bind (al [(.int .i64 0)]) fun t8_2 =>
 M.bind (al [(.slice false true 0 []), (.bool false)]) fun t9_3 =>
 M.bind (bi .lss .none (strip a1) (.int .i64 0)) fun t12_4 =>
 M.bind (gd (strip t12_4) false (M.pure (strip a1))) fun t14_5 =>
 M.bind (gd (strip t12_4) false (M.pure (strip a0))) fun t15_6 =>
 M.bind (gd (strip t12_4) false (lnL t15_6)) fun t16_7 =>
 M.bind (gd (strip t12_4) false (bi .gtr .none t14_5 t16_7)) fun t17_8 =>
 M.bind (pick (strip t12_4) (.bool true) t17_8) fun t18_9 =>
 condM t18_9
 (M.bind (ld (some 2) true t9_3) fun t19_10 =>
 M.bind (st 2 true t6_0 t19_10) fun _ =>
 M.bind (st 1 false t7_1 (.int .i64 0)) fun _ =>
 M.bind (st 1 false t8_2 (.int .i64 1)) fun _ =>
 M.bind (ld (some 2) true t6_0) fun t0_14 => guardM (!isTup t0_14) (M.bind (ld none true t7_1) fun t0_15 => guardM (!isTup t0_15) (M.bind (ld none true t8_2) fun t0_16 => guardM (!isTup t0_16) (M.pure (.tup [t0_14, t0_15, t0_16])))))
 (M.bind (mf k_entry_read_api_RecType_1 [] [t9_3, t6_0, t7_1, t8_2]) fun t20_17 =>
 guardM (isPtr t6_0 && isPtr t7_1 && isPtr t8_2) <| deferM CD t20_17 []
 (M.bind (bd [(.slice false true 0 []), (.int .i64 0)] [(0, 1, (strip a0)), (1, 1, (strip a1))]) fun t23_18 =>
 M.bind (bx 2 t23_18) fun t24_19 =>
 M.bind (callV P C (strip a2) [(strip (strip t24_19))]) fun t27_20 =>
 M.bind (st 2 true t6_0 t27_20) fun _ =>
 chk
 (M.bind (noPan (M.pure (strip t24_19))) fun t29_30 =>
 M.bind (noPan (nc P t29_30)) fun t30_31 =>
 M.bind (noPan (fa 1 t30_31)) fun t31_32 =>
 M.bind (noPan (ld (some 2) true t6_0)) fun t28_33 =>
 M.bind (noPan (st 2 true t6_0 t28_33)) fun _ =>
 M.bind (noPan (ld none true t31_32)) fun t32_35 =>
 M.bind (noPan (st 1 true t7_1 t32_35)) fun _ =>
 M.bind (noPan (st 1 false t8_2 (.int .i64 0))) fun _ =>
 M.pure [a0, a1, a2, .undef, .undef, .undef, t6_0, t7_1, t8_2, t9_3, t24_19, (strip a1), t12_4, (strip t12_4), t14_5, t15_6, t16_7, t17_8, t18_9, .undef, t20_17, (strip a0), (strip a1), t23_18, (strip t24_19), (strip a2), (strip t24_19), (strip t27_20), (strip t28_33), t29_30, t30_31, t31_32, (strip t32_35)])
 (M.bind (noPan (M.pure (strip t24_19))) fun t29_22 =>
 M.bind (noPan (nc P t29_22)) fun t30_23 =>
 M.bind (noPan (fa 1 t30_23)) fun t31_24 =>
 M.bind (noPan (ld (some 2) true t6_0)) fun t28_25 =>
 M.bind (noPan (ld none true t31_24)) fun t32_26 =>
 M.bind (noPan (st 2 true t6_0 t28_25)) fun _ =>
 M.bind (noPan (st 1 true t7_1 t32_26)) fun _ =>
 M.bind (noPan (st 1 false t8_2 (.int .i64 0))) fun _ =>
 M.pure [a0, a1, a2, .undef, .undef, .undef, t6_0, t7_1, t8_2, t9_3, t24_19, (strip a1), t12_4, (strip t12_4), t14_5, t15_6, t16_7, t17_8, t18_9, .undef, t20_17, (strip a0), (strip a1), t23_18, (strip t24_19), (strip a2), (strip t24_19), (strip t27_20), (strip t28_25), t29_22, t30_23, t31_24, (strip t32_26)]) <|
 chk
 (M.bind (noPan (M.pure (strip t24_19))) fun t29_38 =>
 M.bind (noPan (nc P t29_38)) fun t30_39 =>
 M.bind (noPan (fa 1 t30_39)) fun t31_40 =>
 M.bind (noPan (ld none true t31_40)) fun t32_41 =>
 M.bind (noPan (ld (some 2) true t6_0)) fun t28_42 =>
 M.bind (noPan (st 2 true t6_0 t28_42)) fun _ =>
 M.bind (noPan (st 1 true t7_1 t32_41)) fun _ =>
 M.bind (noPan (st 1 false t8_2 (.int .i64 0))) fun _ =>
 M.pure [a0, a1, a2, .undef, .undef, .undef, t6_0, t7_1, t8_2, t9_3, t24_19, (strip a1), t12_4, (strip t12_4), t14_5, t15_6, t16_7, t17_8, t18_9, .undef, t20_17, (strip a0), (strip a1), t23_18, (strip t24_19), (strip a2), (strip t24_19), (strip t27_20), (strip t28_42), t29_38, t30_39, t31_40, (strip t32_41)])
 (M.bind (noPan (M.pure (strip t24_19))) fun t29_22 =>
 M.bind (noPan (nc P t29_22)) fun t30_23 =>
 M.bind (noPan (fa 1 t30_23)) fun t31_24 =>
 M.bind (noPan (ld (some 2) true t6_0)) fun t28_25 =>
 M.bind (noPan (ld none true t31_24)) fun t32_26 =>
 M.bind (noPan (st 2 true t6_0 t28_25)) fun _ =>
 M.bind (noPan (st 1 true t7_1 t32_26)) fun _ =>
 M.bind (noPan (st 1 false t8_2 (.int .i64 0))) fun _ =>
 M.pure [a0, a1, a2, .undef, .undef, .undef, t6_0, t7_1, t8_2, t9_3, t24_19, (strip a1), t12_4, (strip t12_4), t14_5, t15_6, t16_7, t17_8, t18_9, .undef, t20_17, (strip a0), (strip a1), t23_18, (strip t24_19), (strip a2), (strip t24_19), (strip t27_20), (strip t28_25), t29_22, t30_23, t31_24, (strip t32_26)]) <|
 M.bind (noPan (M.pure (strip t24_19))) fun t29_46 =>
 M.bind (noPan (nc P t29_46)) fun t30_47 =>
 M.bind (noPan (fa 1 t30_47)) fun t31_48 =>
 M.bind (noPan (ld (some 2) true t6_0)) fun t28_49 =>
 M.bind (noPan (ld none true t31_48)) fun t32_50 =>
 M.bind (noPan (st 2 true t6_0 t28_49)) fun _ =>
 M.bind (noPan (st 1 true t7_1 t32_50)) fun _ =>
 M.bind (noPan (st 1 false t8_2 (.int .i64 0))) fun _ =>
 M.bind (ld (some 2) true t6_0) fun t0_54 => guardM (!isTup t0_54) (M.bind (ld none true t7_1) fun t0_55 => guardM (!isTup t0_55) (M.bind (ld none true t8_2) fun t0_56 => guardM (!isTup t0_56) (M.pure (.tup [t0_54, t0_55, t0_56])))))
 (M.bind (ld (some 2) true t6_0) fun t0_57 => guardM (!isTup t0_57) (M.bind (ld none true t7_1) fun t0_58 => guardM (!isTup t0_58) (M.bind (ld none true t8_2) fun t0_59 => guardM (!isTup t0_59) (M.pure (.tup [t0_57, t0_58, t0_59]))))))) := by
 rw [C, callW_eq _ _ rfl]; kernel_rfl
theorem entry_cursor_rec_eq (a0 : PV) : C k_entry_cursor_rec [a0] =
 trunc (M.bind (al [(.slice false true 0 []), (.bool false)]) fun t2_0 =>
 M.bind (C k_entry_cursor_look [(strip (strip a0))]) fun t4_1 =>
 M.bind (bi .neq .none t4_1 (.int .u8 78)) fun t5_2 =>
 condM t5_2
 (M.bind (C k_entry_cursor_sub [(strip (strip a0))]) fun t7_3 =>
 M.bind (bs true (some 6) [t7_3]) fun t8_4 =>
 M.bind (bd [(.slice false true 0 []), (.bool false)] [(0, 1, t8_4)]) fun t9_5 =>
 M.bind (st 2 true t2_0 t9_5) fun _ =>
 M.bind (ld (some 2) true t2_0) fun t0_7 => guardM (!isTup t0_7) (M.pure t0_7))
 (M.bind (nc P (strip a0)) fun t11_8 =>
 M.bind (fa 1 t11_8) fun t12_9 =>
 M.bind (ld none false t12_9) fun t13_10 =>
 M.bind (bi .add .none t13_10 (.int .i64 1)) fun t14_11 =>
 M.bind (nc P (strip a0)) fun t15_12 =>
 M.bind (fa 1 t15_12) fun t16_13 =>
 M.bind (st 1 true t16_13 t14_11) fun _ =>
 M.bind (mf k_entry_cursor_sub [(strip a0)] []) fun t19_15 =>
 M.bind (C k_entry_list_api_SubType [(strip (strip a0)), (.int .u32 10000), (strip t19_15)]) fun t20_16 =>
 M.bind (bd [(.slice false true 0 []), (.bool false)] [(1, 1, (.bool true)), (0, 1, t20_16)]) fun t21_17 =>
 M.bind (st 2 true t2_0 t21_17) fun _ =>
 M.bind (ld (some 2) true t2_0) fun t0_19 => guardM (!isTup t0_19) (M.pure t0_19))) := by
 rw [C, callW_eq _ _ rfl]; kernel_rfl
theorem entry_write_1_deq (a0 a1 : PV) : CD none k_entry_write_1 [a0, a1] =
 noPan (trunc (M.bind (M.pure .niliface) fun t3_0 =>
 M.bind (bi .neq .iface (strip t3_0) .niliface) fun t5_1 =>
 condM t5_1
 (nb (M.pure (strip t3_0)) fun t6_2 =>
 nb (ta y_entry_fault (.agg [(.int .i64 0), (.int .i64 0)]) false t6_2) fun t7_3 =>
 nb (fd 1 none t7_3) fun t8_4 =>
 guardM (!clash (tst a0) (.no) && (!clash (tst a0) (.no) && (!clash (tst a0) (.no) && true))) <| M.bind (noPan (st 1 false a0 (.slice false true 0 []))) fun _ =>
 M.bind (noPan (st 1 true a1 t8_4)) fun _ =>
 M.pure (.tup []))
 (M.pure (.tup [])))) := by
 rw [CD, callDW_eq]; kernel_rfl
theorem entry_write_1_req (r : PV) (a0 a1 : PV) : CD (some r) k_entry_write_1 [a0, a1] =
 noPan (trunc (M.bind (M.pure r) fun t3_0 =>
 M.bind (bi .neq .iface (strip t3_0) .niliface) fun t5_1 =>
 condM t5_1
 (nb (M.pure (strip t3_0)) fun t6_2 =>
 nb (ta y_entry_fault (.agg [(.int .i64 0), (.int .i64 0)]) false t6_2) fun t7_3 =>
 nb (fd 1 none t7_3) fun t8_4 =>
 guardM (!clash (tst a0) (.no) && (!clash (tst a0) (.no) && (!clash (tst a0) (.no) && true))) <| M.bind (noPan (st 1 false a0 (.slice false true 0 []))) fun _ =>
 M.bind (noPan (st 1 true a1 t8_4)) fun _ =>
 M.pure (.tup []))
 (M.pure (.tup [])))) := by
 rw [CD, callDW_eq]; kernel_rfl
theorem entry_abstract_eq : C k_entry_abstract [] =
 trunc (M.bind (al [(.int .i64 0), (.int .i64 0), (.int .i64 0), (.int .i64 0), (.int .i64 0), (.int .i64 0), (.int .i64 0), (.int .i64 0), (.int .i64 0), (.int .i64 0), (.int .i64 0), (.int .i64 0)]) fun t0_0 =>
 M.bind (bd [(.int .i64 0), (.int .i64 0), (.int .i64 0), (.int .i64 0), (.int .i64 0), (.int .i64 0), (.int .i64 0), (.int .i64 0), (.int .i64 0), (.int .i64 0), (.int .i64 0), (.int .i64 0)] [(0, 1, (.int .i64 (-11))), (1, 1, (.int .i64 (-9))), (2, 1, (.int .i64 (-8))), (3, 1, (.int .i64 (-7))), (4, 1, (.int .i64 (-6))), (5, 1, (.int .i64 (-5))), (6, 1, (.int .i64 (-3))), (7, 1, (.int .i64 (-1))), (8, 1, (.int .i64 (-10))), (9, 1, (.int .i64 (-4))), (10, 1, (.int .i64 (-2))), (11, 1, (.int .i64 (-12)))]) fun t1_1 =>
 M.bind (st 12 true t0_0 t1_1) fun _ =>
 M.bind (ld (some 12) true t0_0) fun t0_3 => guardM (!isTup t0_3) (M.pure t0_3)) := by
 rw [C, callW_eq _ _ rfl]; kernel_rfl
theorem entry_pen_comp_eq (a0 a1 : PV) : C k_entry_pen_comp [a0, a1] =
 trunc (M.bind (bx 4 a1) fun t3_0 =>
 M.bind (fa 0 t3_0) fun t5_1 =>
 M.bind (ld none false t5_1) fun t6_2 =>
 M.bind (bi .eql .none t6_2 (.int .i64 1)) fun t7_3 =>
 M.bind (gd (strip t7_3) false (fa 1 t3_0)) fun t9_4 =>
 M.bind (gd (strip t7_3) false (ld none false t9_4)) fun t10_5 =>
 M.bind (gd (strip t7_3) false (lnL t10_5)) fun t11_6 =>
 M.bind (gd (strip t7_3) false (fa 2 t3_0)) fun t12_7 =>
 M.bind (gd (strip t7_3) false (ld none false t12_7)) fun t13_8 =>
 M.bind (gd (strip t7_3) false (lnL t13_8)) fun t14_9 =>
 M.bind (gd (strip t7_3) false (bi .add .none t11_6 t14_9)) fun t15_10 =>
 M.bind (gd (strip t7_3) false (bi .eql .none t15_10 (.int .i64 0))) fun t16_11 =>
 M.bind (pick (strip t7_3) (.bool true) t16_11) fun t17_12 =>
 M.bind (C k_entry_pen_must [(strip (strip a0)), (strip t17_12)]) fun t18_13 =>
 M.bind (fa 0 t3_0) fun t19_14 =>
 M.bind (ld none false t19_14) fun t20_15 =>
 M.bind (bi .eql .none t20_15 (.int .i64 1)) fun t24_16 =>
 condM t24_16
 (M.bind (fa 3 t3_0) fun t26_17 =>
 M.bind (ld none false t26_17) fun t27_18 =>
 M.bind (lnL t27_18) fun t28_19 =>
 M.bind (bi .eql .none t28_19 (.int .i64 0)) fun t29_20 =>
 M.bind (C k_entry_pen_must [(strip (strip a0)), (strip t29_20)]) fun t30_21 =>
 M.bind (C k_entry_pen_byte [(strip (strip a0)), (.int .u8 96)]) fun t32_22 =>
 M.bind (fa 1 t3_0) fun t34_23 =>
 M.bind (ld none false t34_23) fun t35_24 =>
 M.bind (C k_entry_pen_vals [(strip (strip a0)), (strip t35_24)]) fun t36_25 =>
 M.bind (fa 2 t3_0) fun t38_26 =>
 M.bind (ld none false t38_26) fun t39_27 =>
 M.bind (C k_entry_pen_vals [(strip (strip a0)), (strip t39_27)]) fun t40_28 =>
 M.pure (.tup []))
 (M.bind (bi .eql .none t20_15 (.int .i64 2)) fun t42_29 =>
 condM t42_29
 (M.bind (C k_entry_pen_byte [(strip (strip a0)), (.int .u8 95)]) fun t44_30 =>
 M.bind (fa 3 t3_0) fun t46_31 =>
 M.bind (ld none false t46_31) fun t47_32 =>
 M.bind (mf k_entry_pen_field [(strip a0)] []) fun t49_33 =>
 M.bind (C k_entry_each_api_Field [(strip (strip a0)), (strip t47_32), (.int .i64 10000), (strip t49_33)]) fun t50_34 =>
 M.pure (.tup []))
 (M.bind (bi .eql .none t20_15 (.int .i64 3)) fun t52_35 =>
 condM t52_35
 (M.bind (fa 3 t3_0) fun t54_36 =>
 M.bind (ld none false t54_36) fun t55_37 =>
 M.bind (lnL t55_37) fun t56_38 =>
 M.bind (bi .eql .none t56_38 (.int .i64 1)) fun t57_39 =>
 M.bind (C k_entry_pen_must [(strip (strip a0)), (strip t57_39)]) fun t58_40 =>
 M.bind (C k_entry_pen_byte [(strip (strip a0)), (.int .u8 94)]) fun t60_41 =>
 M.bind (fa 3 t3_0) fun t62_42 =>
 M.bind (ld none false t62_42) fun t63_43 =>
 M.bind (iaS 4 t63_43 (.int .i64 0)) fun t64_44 =>
 M.bind (ld (some 4) false t64_44) fun t65_45 =>
 M.bind (C k_entry_pen_field [(strip (strip a0)), (strip t65_45)]) fun t66_46 =>
 M.pure (.tup []))
 (M.bind (C k_entry_pen_must [(strip (strip a0)), (.bool false)]) fun t22_47 =>
 M.pure (.tup []))))) := by
 rw [C, callW_eq _ _ rfl]; kernel_rfl
noncomputable def p_entry_each_int_1 (v0 v1 v3 : PV) : M PV := atP P X k_entry_each_int [1] (mkEnv 31 0 [(0, v0), (1, v1), (3, v3)])
noncomputable def p_entry_each_int_1110 (v3 v21 v22 v23 : PV) : M PV := atP P X k_entry_each_int [1, 1, 1, 0] (mkEnv 31 0 [(3, v3), (21, v21), (22, v22), (23, v23)])
theorem p_entry_each_int_1_eq (v0 v1 v3 : PV) : p_entry_each_int_1 v0 v1 v3 =
 M.bind (lnL (strip v1)) fun t18_0 =>
 M.bind (cv (.int .u64) true t18_0) fun t19_1 =>
 M.bind (C k_entry_pen_u [(strip (strip v0)), (strip t19_1)]) fun t20_2 =>
 M.bind (lnL (strip v1)) fun t22_3 =>
 p_entry_each_int_1110 v3 (strip v1) t22_3 (.int .i64 0) :=
 (atP_step P X _ _ _).trans (by kernel_rfl)
theorem p_entry_each_int_1110_eq (v3 v21 v22 v23 : PV) : p_entry_each_int_1110 v3 v21 v22 v23 =
 M.bind (bi .lss .none v23 v22) fun t24_0 =>
 condM t24_0
 (M.bind (iaS 1 v21 v23) fun t25_1 =>
 M.bind (ld none true t25_1) fun t26_2 =>
 M.bind (callV P C (strip v3) [(strip (strip t26_2))]) fun t29_3 =>
 M.bind (bi .add .none v23 (.int .i64 1)) fun t30_4 =>
 p_entry_each_int_1110 v3 v21 v22 (strip t30_4))
 (M.pure (.tup [])) :=
 (atP_step P X _ _ _).trans (by kernel_rfl)
theorem entry_each_int_eq (a0 a1 a2 a3 : PV) : C k_entry_each_int [a0, a1, a2, a3] =
 trunc (M.bind (lnL (strip a1)) fun t11_0 =>
 M.bind (bi .gtr .none t11_0 (strip a2)) fun t13_1 =>
 condM t13_1
 (M.bind (bd [(.int .i64 0), (.int .i64 0)] [(0, 1, (.int .i64 0)), (1, 1, (.int .i64 2))]) fun t14_2 =>
 M.bind (mi y_entry_fault t14_2) fun t15_3 =>
 M.bind (pn t15_3) fun _ =>
 p_entry_each_int_1 a0 a1 a3)
 (p_entry_each_int_1 a0 a1 a3)) := by
 rw [C, callW_eq _ _ rfl]; kernel_rfl
theorem entry_pen_index_eq (a0 a1 : PV) : C k_entry_pen_index [a0, a1] =
 trunc (M.bind (C k_entry_fits [(strip (strip a1))]) fun t6_0 =>
 M.bind (C k_entry_pen_must [(strip (strip a0)), (strip t6_0)]) fun t7_1 =>
 M.bind (cv (.int .u64) true (strip a1)) fun t10_2 =>
 M.bind (C k_entry_pen_u [(strip (strip a0)), (strip t10_2)]) fun t11_3 =>
 M.pure (.tup [])) := by
 rw [C, callW_eq _ _ rfl]; kernel_rfl
theorem entry_pen_u_eq (a0 a1 : PV) : C k_entry_pen_u [a0, a1] =
 trunc (chk
 (M.bind (noPan (M.pure (strip a0))) fun t4_11 =>
 M.bind (noPan (M.pure (strip a0))) fun t5_12 =>
 M.bind (noPan (nc P t5_12)) fun t6_13 =>
 M.bind (noPan (fa 0 t6_13)) fun t7_14 =>
 M.bind (noPan (M.pure (strip a1))) fun t9_15 =>
 M.bind (noPan (C k_leb_PutU [(strip t9_15)])) fun t10_16 =>
 M.bind (noPan (ld none true t7_14)) fun t8_17 =>
 M.bind (noPan (ap true 1 1 t8_17 t10_16)) fun t11_18 =>
 M.bind (noPan (nc P t4_11)) fun t12_19 =>
 M.bind (noPan (fa 0 t12_19)) fun t13_20 =>
 M.bind (noPan (st 1 true t13_20 t11_18)) fun _ =>
 M.pure [a0, a1, .undef, .undef, t4_11, t5_12, t6_13, t7_14, (strip t8_17), t9_15, t10_16, (strip t11_18), t12_19, t13_20])
 (M.bind (noPan (M.pure (strip a0))) fun t4_0 =>
 M.bind (noPan (M.pure (strip a0))) fun t5_1 =>
 M.bind (noPan (nc P t5_1)) fun t6_2 =>
 M.bind (noPan (fa 0 t6_2)) fun t7_3 =>
 M.bind (noPan (M.pure (strip a1))) fun t9_4 =>
 M.bind (noPan (ld none true t7_3)) fun t8_5 =>
 M.bind (noPan (C k_leb_PutU [(strip t9_4)])) fun t10_6 =>
 M.bind (noPan (ap true 1 1 t8_5 t10_6)) fun t11_7 =>
 M.bind (noPan (nc P t4_0)) fun t12_8 =>
 M.bind (noPan (fa 0 t12_8)) fun t13_9 =>
 M.bind (noPan (st 1 true t13_9 t11_7)) fun _ =>
 M.pure [a0, a1, .undef, .undef, t4_0, t5_1, t6_2, t7_3, (strip t8_5), t9_4, t10_6, (strip t11_7), t12_8, t13_9]) <|
 M.bind (noPan (M.pure (strip a0))) fun t4_22 =>
 M.bind (noPan (M.pure (strip a0))) fun t5_23 =>
 M.bind (noPan (nc P t5_23)) fun t6_24 =>
 M.bind (noPan (fa 0 t6_24)) fun t7_25 =>
 M.bind (noPan (M.pure (strip a1))) fun t9_26 =>
 M.bind (noPan (ld none true t7_25)) fun t8_27 =>
 M.bind (noPan (C k_leb_PutU [(strip t9_26)])) fun t10_28 =>
 M.bind (noPan (ap true 1 1 t8_27 t10_28)) fun t11_29 =>
 M.bind (noPan (nc P t4_22)) fun t12_30 =>
 M.bind (noPan (fa 0 t12_30)) fun t13_31 =>
 M.bind (noPan (st 1 true t13_31 t11_29)) fun _ =>
 M.pure (.tup [])) := by
 rw [C, callW_eq _ _ rfl]; kernel_rfl
theorem entry_named_eq (a0 : PV) : C k_entry_named [a0] =
 trunc (M.bind (bi .lss .none (strip a0) (.int .u8 105)) fun t4_0 =>
 M.bind (gd (strip t4_0) false (M.pure (strip a0))) fun t6_1 =>
 M.bind (gd (strip t4_0) false (bi .gtr .none t6_1 (.int .u8 116))) fun t7_2 =>
 M.bind (pick (strip t4_0) (.bool true) t7_2) fun t8_3 =>
 condM t8_3
 (M.pure (.int .i64 0))
 (M.bind (C k_entry_abstract []) fun t9_4 =>
 M.bind (bi .sub .none (strip a0) (.int .u8 105)) fun t11_5 =>
 M.bind (ixA 12 1 none t9_4 t11_5) fun t12_6 =>
 resT t12_6 (M.pure t12_6))) := by
 rw [C, callW_eq _ _ rfl]; kernel_rfl
noncomputable def p_entry_cursor_look_11 (v0 v2 : PV) : M PV := atP P X k_entry_cursor_look [1, 1] (mkEnv 30 0 [(0, v0), (2, v2)])
theorem p_entry_cursor_look_11_eq (v0 v2 : PV) : p_entry_cursor_look_11 v0 v2 =
 nb (nc P (strip v0)) fun t21_0 =>
 nb (fa 0 t21_0) fun t22_1 =>
 nb (ld none false t22_1) fun t23_2 =>
 nb (nc P (strip v0)) fun t25_3 =>
 nb (fa 1 t25_3) fun t26_4 =>
 nb (ld none false t26_4) fun t27_5 =>
 nb (iaS 1 t23_2 t27_5) fun t28_6 =>
 nb (ld none true t28_6) fun t29_7 =>
 resT t29_7 (M.pure t29_7) :=
 (atP_step P X _ _ _).trans (by kernel_rfl)
theorem entry_cursor_look_eq (a0 : PV) : C k_entry_cursor_look [a0] =
 trunc (nb (nc P (strip a0)) fun t4_0 =>
 nb (fa 1 t4_0) fun t5_1 =>
 nb (ld none false t5_1) fun t6_2 =>
 nb (nc P (strip a0)) fun t8_3 =>
 nb (fa 0 t8_3) fun t9_4 =>
 nb (ld none false t9_4) fun t10_5 =>
 nb (lnL t10_5) fun t11_6 =>
 nb (bi .geq .none t6_2 t11_6) fun t12_7 =>
 condM t12_7
 (M.bind (nc P (strip a0)) fun t15_8 =>
 M.bind (fa 0 t15_8) fun t16_9 =>
 M.bind (ld none false t16_9) fun t17_10 =>
 M.bind (lnL t17_10) fun t18_11 =>
 M.bind (C k_entry_cursor_fail [(strip (strip a0)), (strip t18_11), (.int .i64 3)]) fun t19_12 =>
 p_entry_cursor_look_11 a0 (.int .u8 0))
 (p_entry_cursor_look_11 a0 (.int .u8 0))) := by
 rw [C, callW_eq _ _ rfl]; kernel_rfl
noncomputable def p_entry_cursor_s33_11111 (v2 v4 : PV) : M PV := atP P X k_entry_cursor_s33 [1, 1, 1, 1, 1] (mkEnv 47 0 [(2, v2), (4, v4)])
theorem p_entry_cursor_s33_11111_eq (v2 v4 : PV) : p_entry_cursor_s33_11111 v2 v4 =
 resT v4 (M.pure v4) :=
 (atP_step P X _ _ _).trans (by kernel_rfl)
theorem entry_cursor_s33_eq (a0 : PV) : C k_entry_cursor_s33 [a0] =
 trunc (M.bind (nc P (strip a0)) fun t8_0 =>
 M.bind (fa 1 t8_0) fun t9_1 =>
 M.bind (ld none true t9_1) fun t10_2 =>
 M.bind (noPan (M.pure (strip a0))) fun t12_24 =>
 M.bind (noPan (nc P t12_24)) fun t13_25 =>
 M.bind (noPan (fa 0 t13_25)) fun t14_26 =>
 M.bind (noPan (M.pure (strip a0))) fun t16_27 =>
 M.bind (noPan (nc P t16_27)) fun t17_28 =>
 M.bind (noPan (fa 1 t17_28)) fun t18_29 =>
 M.bind (noPan (M.pure (strip a0))) fun t20_30 =>
 M.bind (noPan (nc P t20_30)) fun t21_31 =>
 M.bind (noPan (fa 0 t21_31)) fun t22_32 =>
 M.bind (noPan (ld none false t14_26)) fun t15_33 =>
 M.bind (noPan (ld none false t18_29)) fun t19_34 =>
 M.bind (noPan (ld none false t22_32)) fun t23_35 =>
 M.bind (noPan (lnL t23_35)) fun t24_36 =>
 M.bind (noPan (C k_leb_S33 [(strip t15_33), (strip t19_34), (strip t24_36)])) fun t25_37 =>
 M.bind (noPan (M.pure (strip t25_37))) fun t11_38 =>
 M.bind (noPan (ex 0 t11_38)) fun t26_39 =>
 M.bind (noPan (ex 1 (tupDrop 0 t11_38))) fun t27_40 =>
 M.bind (noPan (ex 2 (tupDrop 1 (tupDrop 0 t11_38)))) fun t28_41 =>
 M.bind (noPan (M.pure t26_39)) fun t4_42 =>
 M.bind (noPan (M.pure t27_40)) fun t5_43 =>
 M.bind (noPan (M.pure t28_41)) fun t6_44 =>
 M.bind (C k_entry_got_int64 [(strip (strip a0)), (strip (strip t4_42)), (strip (strip t5_43)), (strip (strip t6_44))]) fun t33_45 =>
 M.bind (bi .lss .none (strip t33_45) (.int .i64 0)) fun t36_46 =>
 condM t36_46
 (M.bind (C k_entry_cursor_fail [(strip (strip a0)), (strip (strip t10_2)), (.int .i64 4)]) fun t39_47 =>
 p_entry_cursor_s33_11111 (.int .i64 0) t33_45)
 (M.bind (bi .gtr .none (strip t33_45) (.int .i64 2147483647)) fun t42_48 =>
 condM t42_48
 (M.bind (C k_entry_cursor_fail [(strip (strip a0)), (strip (strip t10_2)), (.int .i64 2)]) fun t45_49 =>
 p_entry_cursor_s33_11111 (.int .i64 0) t33_45)
 (p_entry_cursor_s33_11111 (.int .i64 0) t33_45))) := by
 rw [C, callW_eq _ _ rfl]; kernel_rfl
theorem entry_cursor_fail_eq (a0 a1 a2 : PV) : C k_entry_cursor_fail [a0, a1, a2] =
 trunc (M.bind (bd [(.int .i64 0), (.int .i64 0)] [(0, 1, (strip a1)), (1, 1, (strip a2))]) fun t8_0 =>
 M.bind (mi y_entry_fault t8_0) fun t9_1 =>
 M.bind (pn t9_1) fun _ =>
 M.pure (.tup [])) := by
 rw [C, callW_eq _ _ rfl]; kernel_rfl
end Go.Proofs.Ytofbbijagbpicaa.Pi.Q
namespace Go.Proofs.Ytofbbijagbpicaa.Pi.Q
open Go Go.Proofs.Ytofbbijagbpicaa.Pi
set_option linter.unusedVariables false
set_option maxRecDepth 100000
noncomputable def p_entry_list_api_ValType_1111 (v2 v6 v8 : PV) : M PV := atP P X k_entry_list_api_ValType [1, 1, 1, 1] (mkEnv 32 0 [(2, v2), (6, v6), (8, v8)])
noncomputable def p_entry_list_api_ValType_11111010 (v2 v6 v9 v22 v23 : PV) : M PV := atP P X k_entry_list_api_ValType [1, 1, 1, 1, 1, 0, 1, 0] (mkEnv 32 0 [(2, v2), (6, v6), (9, v9), (22, v22), (23, v23)])
theorem p_entry_list_api_ValType_1111_eq (v2 v6 v8 : PV) : p_entry_list_api_ValType_1111 v2 v6 v8 =
 p_entry_list_api_ValType_11111010 v2 v6 (.slice false true 0 []) (strip v8) (.int .u32 0) :=
 (atP_step P X _ _ _).trans (by kernel_rfl)
theorem p_entry_list_api_ValType_11111010_eq (v2 v6 v9 v22 v23 : PV) : p_entry_list_api_ValType_11111010 v2 v6 v9 v22 v23 =
 M.bind (bi .lss .none v23 v22) fun t24_0 =>
 condM t24_0
 (M.bind (callV P C (strip v2) []) fun t27_1 =>
 M.bind (bs true (some 3) [t27_1]) fun t28_2 =>
 M.bind (ap true 3 24 v9 t28_2) fun t29_3 =>
 M.bind (bi .add .none v23 (.int .u32 1)) fun t30_4 =>
 p_entry_list_api_ValType_11111010 v2 v6 t29_3 v22 (strip t30_4))
 (resT v9 (M.pure v9)) :=
 (atP_step P X _ _ _).trans (by kernel_rfl)
theorem entry_list_api_ValType_eq (a0 a1 a2 : PV) : C k_entry_list_api_ValType [a0, a1, a2] =
 trunc (M.bind (nc P (strip a0)) fun t11_0 =>
 M.bind (fa 1 t11_0) fun t12_1 =>
 M.bind (ld none true t12_1) fun t13_2 =>
 M.bind (C k_entry_cursor_u32 [(strip (strip a0))]) fun t15_3 =>
 M.bind (bi .gtr .none (strip t15_3) (strip a1)) fun t18_4 =>
 condM t18_4
 (M.bind (C k_entry_cursor_fail [(strip (strip a0)), (strip (strip t13_2)), (.int .i64 2)]) fun t21_5 =>
 p_entry_list_api_ValType_1111 a2 (.slice false true 0 []) t15_3)
 (p_entry_list_api_ValType_1111 a2 (.slice false true 0 []) t15_3)) := by
 rw [C, callW_eq _ _ rfl]; kernel_rfl
noncomputable def p_entry_cursor_small_111 (v0 v4 v5 : PV) : M PV := atP P X k_entry_cursor_small [1, 1, 1] (mkEnv 25 0 [(0, v0), (4, v4), (5, v5)])
theorem p_entry_cursor_small_111_eq (v0 v4 v5 : PV) : p_entry_cursor_small_111 v0 v4 v5 =
 M.bind (nc P (strip v0)) fun t18_0 =>
 M.bind (fa 1 t18_0) fun t19_1 =>
 M.bind (ld none false t19_1) fun t20_2 =>
 M.bind (bi .add .none t20_2 (.int .i64 1)) fun t21_3 =>
 M.bind (nc P (strip v0)) fun t22_4 =>
 M.bind (fa 1 t22_4) fun t23_5 =>
 M.bind (st 1 true t23_5 t21_3) fun _ =>
 resT v5 (M.pure v5) :=
 (atP_step P X _ _ _).trans (by kernel_rfl)
theorem entry_cursor_small_eq (a0 a1 : PV) : C k_entry_cursor_small [a0, a1] =
 trunc (M.bind (C k_entry_cursor_look [(strip (strip a0))]) fun t7_0 =>
 M.bind (bi .gtr .none (strip t7_0) (strip a1)) fun t10_1 =>
 condM t10_1
 (M.bind (nc P (strip a0)) fun t13_2 =>
 M.bind (fa 1 t13_2) fun t14_3 =>
 M.bind (ld none false t14_3) fun t15_4 =>
 M.bind (C k_entry_cursor_fail [(strip (strip a0)), (strip t15_4), (.int .i64 4)]) fun t16_5 =>
 p_entry_cursor_small_111 a0 (.int .u8 0) t7_0)
 (p_entry_cursor_small_111 a0 (.int .u8 0) t7_0)) := by
 rw [C, callW_eq _ _ rfl]; kernel_rfl
noncomputable def p_entry_list_api_Field_1111 (v2 v6 v8 : PV) : M PV := atP P X k_entry_list_api_Field [1, 1, 1, 1] (mkEnv 32 0 [(2, v2), (6, v6), (8, v8)])
noncomputable def p_entry_list_api_Field_11111010 (v2 v6 v9 v22 v23 : PV) : M PV := atP P X k_entry_list_api_Field [1, 1, 1, 1, 1, 0, 1, 0] (mkEnv 32 0 [(2, v2), (6, v6), (9, v9), (22, v22), (23, v23)])
theorem p_entry_list_api_Field_1111_eq (v2 v6 v8 : PV) : p_entry_list_api_Field_1111 v2 v6 v8 =
 p_entry_list_api_Field_11111010 v2 v6 (.slice false true 0 []) (strip v8) (.int .u32 0) :=
 (atP_step P X _ _ _).trans (by kernel_rfl)
theorem p_entry_list_api_Field_11111010_eq (v2 v6 v9 v22 v23 : PV) : p_entry_list_api_Field_11111010 v2 v6 v9 v22 v23 =
 M.bind (bi .lss .none v23 v22) fun t24_0 =>
 condM t24_0
 (M.bind (callV P C (strip v2) []) fun t27_1 =>
 M.bind (bs true (some 4) [t27_1]) fun t28_2 =>
 M.bind (ap true 4 32 v9 t28_2) fun t29_3 =>
 M.bind (bi .add .none v23 (.int .u32 1)) fun t30_4 =>
 p_entry_list_api_Field_11111010 v2 v6 t29_3 v22 (strip t30_4))
 (resT v9 (M.pure v9)) :=
 (atP_step P X _ _ _).trans (by kernel_rfl)
theorem entry_list_api_Field_eq (a0 a1 a2 : PV) : C k_entry_list_api_Field [a0, a1, a2] =
 trunc (M.bind (nc P (strip a0)) fun t11_0 =>
 M.bind (fa 1 t11_0) fun t12_1 =>
 M.bind (ld none true t12_1) fun t13_2 =>
 M.bind (C k_entry_cursor_u32 [(strip (strip a0))]) fun t15_3 =>
 M.bind (bi .gtr .none (strip t15_3) (strip a1)) fun t18_4 =>
 condM t18_4
 (M.bind (C k_entry_cursor_fail [(strip (strip a0)), (strip (strip t13_2)), (.int .i64 2)]) fun t21_5 =>
 p_entry_list_api_Field_1111 a2 (.slice false true 0 []) t15_3)
 (p_entry_list_api_Field_1111 a2 (.slice false true 0 []) t15_3)) := by
 rw [C, callW_eq _ _ rfl]; kernel_rfl
theorem ratchetref05_Same_eq (a0 a1 : PV) : C k_ratchetref05_Same [a0, a1] =
 trunc (M.bind (bx 3 a0) fun t2_0 =>
 M.bind (bx 3 a1) fun t3_1 =>
 M.bind (fa 0 t2_0) fun t5_2 =>
 M.bind (ld none false t5_2) fun t6_3 =>
 M.bind (fa 0 t3_1) fun t7_4 =>
 M.bind (ld none false t7_4) fun t8_5 =>
 M.bind (bi .eql .none t6_3 t8_5) fun t9_6 =>
 M.bind (gd (strip t9_6) true (fa 0 t2_0)) fun t11_7 =>
 M.bind (gd (strip t9_6) true (ld none false t11_7)) fun t12_8 =>
 M.bind (gd (strip t9_6) true (bi .neq .none t12_8 (.int .i64 5))) fun t13_9 =>
 M.bind (gd (strip t9_6) true (M.pure (strip t13_9))) fun t14_10 =>
 M.bind (gd t14_10 false (fa 1 t2_0)) fun t15_11 =>
 M.bind (gd t14_10 false (ld none false t15_11)) fun t16_12 =>
 M.bind (gd t14_10 false (fa 1 t3_1)) fun t17_13 =>
 M.bind (gd t14_10 false (ld none false t17_13)) fun t18_14 =>
 M.bind (gd t14_10 false (bi .eql .bool t16_12 t18_14)) fun t19_15 =>
 M.bind (gd t14_10 false (M.pure (strip t19_15))) fun t20_16 =>
 M.bind (gd t20_16 true (fa 2 t2_0)) fun t21_17 =>
 M.bind (gd t20_16 true (ld none false t21_17)) fun t22_18 =>
 M.bind (gd t20_16 true (fa 2 t3_1)) fun t23_19 =>
 M.bind (gd t20_16 true (ld none false t23_19)) fun t24_20 =>
 M.bind (gd t20_16 true (bi .eql .none t22_18 t24_20)) fun t25_21 =>
 M.bind (gd t14_10 false (pick t20_16 t25_21 (.bool false))) fun t26_22 =>
 M.bind (gd (strip t9_6) true (pick t14_10 (.bool true) t26_22)) fun t27_23 =>
 M.bind (pick (strip t9_6) t27_23 (.bool false)) fun t28_24 =>
 resT t28_24 (M.pure t28_24)) := by
 rw [C, callW_eq _ _ rfl]; kernel_rfl
noncomputable def p_entry_list_int_1111 (v2 v6 v8 : PV) : M PV := atP P X k_entry_list_int [1, 1, 1, 1] (mkEnv 32 0 [(2, v2), (6, v6), (8, v8)])
noncomputable def p_entry_list_int_11111010 (v2 v6 v9 v22 v23 : PV) : M PV := atP P X k_entry_list_int [1, 1, 1, 1, 1, 0, 1, 0] (mkEnv 32 0 [(2, v2), (6, v6), (9, v9), (22, v22), (23, v23)])
theorem p_entry_list_int_1111_eq (v2 v6 v8 : PV) : p_entry_list_int_1111 v2 v6 v8 =
 p_entry_list_int_11111010 v2 v6 (.slice false true 0 []) (strip v8) (.int .u32 0) :=
 (atP_step P X _ _ _).trans (by kernel_rfl)
theorem p_entry_list_int_11111010_eq (v2 v6 v9 v22 v23 : PV) : p_entry_list_int_11111010 v2 v6 v9 v22 v23 =
 M.bind (bi .lss .none v23 v22) fun t24_0 =>
 condM t24_0
 (M.bind (callV P C (strip v2) []) fun t27_1 =>
 M.bind (bs true none [t27_1]) fun t28_2 =>
 M.bind (ap true 1 8 v9 t28_2) fun t29_3 =>
 M.bind (bi .add .none v23 (.int .u32 1)) fun t30_4 =>
 p_entry_list_int_11111010 v2 v6 t29_3 v22 (strip t30_4))
 (resT v9 (M.pure v9)) :=
 (atP_step P X _ _ _).trans (by kernel_rfl)
theorem entry_list_int_eq (a0 a1 a2 : PV) : C k_entry_list_int [a0, a1, a2] =
 trunc (M.bind (nc P (strip a0)) fun t11_0 =>
 M.bind (fa 1 t11_0) fun t12_1 =>
 M.bind (ld none true t12_1) fun t13_2 =>
 M.bind (C k_entry_cursor_u32 [(strip (strip a0))]) fun t15_3 =>
 M.bind (bi .gtr .none (strip t15_3) (strip a1)) fun t18_4 =>
 condM t18_4
 (M.bind (C k_entry_cursor_fail [(strip (strip a0)), (strip (strip t13_2)), (.int .i64 2)]) fun t21_5 =>
 p_entry_list_int_1111 a2 (.slice false true 0 []) t15_3)
 (p_entry_list_int_1111 a2 (.slice false true 0 []) t15_3)) := by
 rw [C, callW_eq _ _ rfl]; kernel_rfl
noncomputable def p_entry_cursor_index_1111 (v2 v4 : PV) : M PV := atP P X k_entry_cursor_index [1, 1, 1, 1] (mkEnv 18 0 [(2, v2), (4, v4)])
theorem p_entry_cursor_index_1111_eq (v2 v4 : PV) : p_entry_cursor_index_1111 v2 v4 =
 M.bind (cv (.int .i64) true (strip v4)) fun t17_0 =>
 resT t17_0 (M.pure t17_0) :=
 (atP_step P X _ _ _).trans (by kernel_rfl)
theorem entry_cursor_index_eq (a0 : PV) : C k_entry_cursor_index [a0] =
 trunc (M.bind (nc P (strip a0)) fun t6_0 =>
 M.bind (fa 1 t6_0) fun t7_1 =>
 M.bind (ld none true t7_1) fun t8_2 =>
 M.bind (C k_entry_cursor_u32 [(strip (strip a0))]) fun t10_3 =>
 M.bind (bi .gtr .none (strip t10_3) (.int .u32 2147483647)) fun t12_4 =>
 condM t12_4
 (M.bind (C k_entry_cursor_fail [(strip (strip a0)), (strip (strip t8_2)), (.int .i64 2)]) fun t15_5 =>
 p_entry_cursor_index_1111 (.int .i64 0) t10_3)
 (p_entry_cursor_index_1111 (.int .i64 0) t10_3)) := by
 rw [C, callW_eq _ _ rfl]; kernel_rfl
theorem entry_read_api_RecType_1_deq (a0 a1 a2 a3 : PV) : CD none k_entry_read_api_RecType_1 [a0, a1, a2, a3] =
 noPan (trunc (M.bind (M.pure .niliface) fun t6_0 =>
 M.bind (bi .neq .iface (strip t6_0) .niliface) fun t8_1 =>
 condM t8_1
 (M.bind (ta y_entry_fault (.agg [(.int .i64 0), (.int .i64 0)]) false (strip t6_0)) fun t10_2 =>
 M.bind (al [(.int .i64 0), (.int .i64 0)]) fun t5_3 =>
 M.bind (st 2 true t5_3 t10_2) fun _ =>
 nb (ld (some 2) true a0) fun t11_5 =>
 nb (fa 0 t5_3) fun t12_6 =>
 guardM (!clash (tld t12_6) (tld a0) && true) <| nb (ld none true t12_6) fun t13_7 =>
 nb (fa 1 t5_3) fun t14_8 =>
 guardM (!clash (tld t14_8) (tld t12_6) && (!clash (tld t14_8) (.no) && (!clash (tld t14_8) (tld a0) && true))) <| nb (ld none true t14_8) fun t15_9 =>
 guardM (!clash (tst a1) (tld t14_8) && (!clash (tst a1) (.no) && (!clash (tst a1) (tld t12_6) && (!clash (tst a1) (.no) && true)))) <| M.bind (noPan (st 2 true a1 t11_5)) fun _ =>
 guardM (!clash (tst a2) (tld t14_8) && (!clash (tst a2) (.no) && true)) <| M.bind (noPan (st 1 true a2 t13_7)) fun _ =>
 M.bind (noPan (st 1 true a3 t15_9)) fun _ =>
 M.pure (.tup []))
 (M.pure (.tup [])))) := by
 rw [CD, callDW_eq]; kernel_rfl
theorem entry_read_api_RecType_1_req (r : PV) (a0 a1 a2 a3 : PV) : CD (some r) k_entry_read_api_RecType_1 [a0, a1, a2, a3] =
 noPan (trunc (M.bind (M.pure r) fun t6_0 =>
 M.bind (bi .neq .iface (strip t6_0) .niliface) fun t8_1 =>
 condM t8_1
 (M.bind (ta y_entry_fault (.agg [(.int .i64 0), (.int .i64 0)]) false (strip t6_0)) fun t10_2 =>
 M.bind (al [(.int .i64 0), (.int .i64 0)]) fun t5_3 =>
 M.bind (st 2 true t5_3 t10_2) fun _ =>
 nb (ld (some 2) true a0) fun t11_5 =>
 nb (fa 0 t5_3) fun t12_6 =>
 guardM (!clash (tld t12_6) (tld a0) && true) <| nb (ld none true t12_6) fun t13_7 =>
 nb (fa 1 t5_3) fun t14_8 =>
 guardM (!clash (tld t14_8) (tld t12_6) && (!clash (tld t14_8) (.no) && (!clash (tld t14_8) (tld a0) && true))) <| nb (ld none true t14_8) fun t15_9 =>
 guardM (!clash (tst a1) (tld t14_8) && (!clash (tst a1) (.no) && (!clash (tst a1) (tld t12_6) && (!clash (tst a1) (.no) && true)))) <| M.bind (noPan (st 2 true a1 t11_5)) fun _ =>
 guardM (!clash (tst a2) (tld t14_8) && (!clash (tst a2) (.no) && true)) <| M.bind (noPan (st 1 true a2 t13_7)) fun _ =>
 M.bind (noPan (st 1 true a3 t15_9)) fun _ =>
 M.pure (.tup []))
 (M.pure (.tup [])))) := by
 rw [CD, callDW_eq]; kernel_rfl
noncomputable def p_entry_list_api_SubType_1111 (v2 v6 v8 : PV) : M PV := atP P X k_entry_list_api_SubType [1, 1, 1, 1] (mkEnv 32 0 [(2, v2), (6, v6), (8, v8)])
noncomputable def p_entry_list_api_SubType_11111010 (v2 v6 v9 v22 v23 : PV) : M PV := atP P X k_entry_list_api_SubType [1, 1, 1, 1, 1, 0, 1, 0] (mkEnv 32 0 [(2, v2), (6, v6), (9, v9), (22, v22), (23, v23)])
theorem p_entry_list_api_SubType_1111_eq (v2 v6 v8 : PV) : p_entry_list_api_SubType_1111 v2 v6 v8 =
 p_entry_list_api_SubType_11111010 v2 v6 (.slice false true 0 []) (strip v8) (.int .u32 0) :=
 (atP_step P X _ _ _).trans (by kernel_rfl)
theorem p_entry_list_api_SubType_11111010_eq (v2 v6 v9 v22 v23 : PV) : p_entry_list_api_SubType_11111010 v2 v6 v9 v22 v23 =
 M.bind (bi .lss .none v23 v22) fun t24_0 =>
 condM t24_0
 (M.bind (callV P C (strip v2) []) fun t27_1 =>
 M.bind (bs true (some 6) [t27_1]) fun t28_2 =>
 M.bind (ap true 6 112 v9 t28_2) fun t29_3 =>
 M.bind (bi .add .none v23 (.int .u32 1)) fun t30_4 =>
 p_entry_list_api_SubType_11111010 v2 v6 t29_3 v22 (strip t30_4))
 (resT v9 (M.pure v9)) :=
 (atP_step P X _ _ _).trans (by kernel_rfl)
theorem entry_list_api_SubType_eq (a0 a1 a2 : PV) : C k_entry_list_api_SubType [a0, a1, a2] =
 trunc (M.bind (nc P (strip a0)) fun t11_0 =>
 M.bind (fa 1 t11_0) fun t12_1 =>
 M.bind (ld none true t12_1) fun t13_2 =>
 M.bind (C k_entry_cursor_u32 [(strip (strip a0))]) fun t15_3 =>
 M.bind (bi .gtr .none (strip t15_3) (strip a1)) fun t18_4 =>
 condM t18_4
 (M.bind (C k_entry_cursor_fail [(strip (strip a0)), (strip (strip t13_2)), (.int .i64 2)]) fun t21_5 =>
 p_entry_list_api_SubType_1111 a2 (.slice false true 0 []) t15_3)
 (p_entry_list_api_SubType_1111 a2 (.slice false true 0 []) t15_3)) := by
 rw [C, callW_eq _ _ rfl]; kernel_rfl
theorem entry_pen_vals_eq (a0 a1 : PV) : C k_entry_pen_vals [a0, a1] =
 trunc (M.bind (mf k_entry_pen_val [(strip a0)] []) fun t7_0 =>
 M.bind (C k_entry_each_api_ValType [(strip (strip a0)), (strip (strip a1)), (.int .i64 1000), (strip t7_0)]) fun t8_1 =>
 M.pure (.tup [])) := by
 rw [C, callW_eq _ _ rfl]; kernel_rfl
noncomputable def p_entry_each_api_Field_1 (v0 v1 v3 : PV) : M PV := atP P X k_entry_each_api_Field [1] (mkEnv 31 0 [(0, v0), (1, v1), (3, v3)])
noncomputable def p_entry_each_api_Field_1110 (v3 v21 v22 v23 : PV) : M PV := atP P X k_entry_each_api_Field [1, 1, 1, 0] (mkEnv 31 0 [(3, v3), (21, v21), (22, v22), (23, v23)])
theorem p_entry_each_api_Field_1_eq (v0 v1 v3 : PV) : p_entry_each_api_Field_1 v0 v1 v3 =
 M.bind (lnL (strip v1)) fun t18_0 =>
 M.bind (cv (.int .u64) true t18_0) fun t19_1 =>
 M.bind (C k_entry_pen_u [(strip (strip v0)), (strip t19_1)]) fun t20_2 =>
 M.bind (lnL (strip v1)) fun t22_3 =>
 p_entry_each_api_Field_1110 v3 (strip v1) t22_3 (.int .i64 0) :=
 (atP_step P X _ _ _).trans (by kernel_rfl)
theorem p_entry_each_api_Field_1110_eq (v3 v21 v22 v23 : PV) : p_entry_each_api_Field_1110 v3 v21 v22 v23 =
 M.bind (bi .lss .none v23 v22) fun t24_0 =>
 condM t24_0
 (M.bind (iaS 4 v21 v23) fun t25_1 =>
 M.bind (ld (some 4) true t25_1) fun t26_2 =>
 M.bind (al [(.int .i64 0), (.bool false), (.int .i64 0), (.bool false)]) fun t9_3 =>
 M.bind (st 4 true t9_3 t26_2) fun _ =>
 M.bind (ld (some 4) false t9_3) fun t28_5 =>
 M.bind (callV P C (strip v3) [(strip t28_5)]) fun t29_6 =>
 M.bind (bi .add .none v23 (.int .i64 1)) fun t30_7 =>
 p_entry_each_api_Field_1110 v3 v21 v22 (strip t30_7))
 (M.pure (.tup [])) :=
 (atP_step P X _ _ _).trans (by kernel_rfl)
theorem entry_each_api_Field_eq (a0 a1 a2 a3 : PV) : C k_entry_each_api_Field [a0, a1, a2, a3] =
 trunc (M.bind (lnL (strip a1)) fun t11_0 =>
 M.bind (bi .gtr .none t11_0 (strip a2)) fun t13_1 =>
 condM t13_1
 (M.bind (bd [(.int .i64 0), (.int .i64 0)] [(0, 1, (.int .i64 0)), (1, 1, (.int .i64 2))]) fun t14_2 =>
 M.bind (mi y_entry_fault t14_2) fun t15_3 =>
 M.bind (pn t15_3) fun _ =>
 p_entry_each_api_Field_1 a0 a1 a3)
 (p_entry_each_api_Field_1 a0 a1 a3)) := by
 rw [C, callW_eq _ _ rfl]; kernel_rfl
noncomputable def p_entry_pen_field_11 (v0 v3 : PV) : M PV := atP P X k_entry_pen_field [1, 1] (mkEnv 24 0 [(0, v0), (3, v3)])
theorem p_entry_pen_field_11_eq (v0 v3 : PV) : p_entry_pen_field_11 v0 v3 =
 M.bind (fa 3 v3) fun t21_0 =>
 M.bind (ld none false t21_0) fun t22_1 =>
 M.bind (C k_entry_pen_flag [(strip (strip v0)), (strip t22_1)]) fun t23_2 =>
 M.pure (.tup []) :=
 (atP_step P X _ _ _).trans (by kernel_rfl)
theorem entry_pen_field_eq (a0 a1 : PV) : C k_entry_pen_field [a0, a1] =
 trunc (M.bind (bx 4 a1) fun t3_0 =>
 M.bind (fa 0 t3_0) fun t4_1 =>
 M.bind (ld (some 3) false t4_1) fun t5_2 =>
 M.bind (bd [(.int .i64 0), (.bool false), (.int .i64 0)] [(0, 1, (.int .i64 6))]) fun t11_3 =>
 M.bind (bi .eql (.struct [.int, .bool, .int]) t5_2 t11_3) fun t12_4 =>
 condM t12_4
 (M.bind (C k_entry_pen_byte [(strip (strip a0)), (.int .u8 120)]) fun t14_5 =>
 p_entry_pen_field_11 a0 t3_0)
 (M.bind (bd [(.int .i64 0), (.bool false), (.int .i64 0)] [(0, 1, (.int .i64 7))]) fun t16_6 =>
 M.bind (bi .eql (.struct [.int, .bool, .int]) t5_2 t16_6) fun t17_7 =>
 condM t17_7
 (M.bind (C k_entry_pen_byte [(strip (strip a0)), (.int .u8 119)]) fun t19_8 =>
 p_entry_pen_field_11 a0 t3_0)
 (M.bind (fa 0 t3_0) fun t7_9 =>
 M.bind (ld (some 3) false t7_9) fun t8_10 =>
 M.bind (C k_entry_pen_val [(strip (strip a0)), (strip t8_10)]) fun t9_11 =>
 p_entry_pen_field_11 a0 t3_0))) := by
 rw [C, callW_eq _ _ rfl]; kernel_rfl
noncomputable def p_leb_PutU_1100 (v0 v2 v3 : PV) : M PV := atP P X k_leb_PutU [1, 1, 0, 0] (mkEnv 19 0 [(0, v0), (2, v2), (3, v3)])
theorem p_leb_PutU_1100_eq (v0 v2 v3 : PV) : p_leb_PutU_1100 v0 v2 v3 =
 M.bind (bi .gtr .none (strip v0) (.int .u64 127)) fun t5_0 =>
 condM t5_0
 (M.bind (cv (.int .u8) true (strip v0)) fun t10_1 =>
 M.bind (bi .or .none t10_1 (.int .u8 128)) fun t11_2 =>
 M.bind (bs true none [t11_2]) fun t12_3 =>
 M.bind (ap true 1 1 v3 t12_3) fun t13_4 =>
 M.bind (bi .shr .none (strip v0) (.int .u64 7)) fun t7_5 =>
 p_leb_PutU_1100 t7_5 v2 t13_4)
 (M.bind (cv (.int .u8) true (strip v0)) fun t16_6 =>
 M.bind (bs true none [t16_6]) fun t17_7 =>
 M.bind (ap true 1 1 v3 t17_7) fun t18_8 =>
 resT t18_8 (M.pure t18_8)) :=
 (atP_step P X _ _ _).trans (by kernel_rfl)
theorem leb_PutU_eq (a0 : PV) : C k_leb_PutU [a0] =
 trunc (p_leb_PutU_1100 a0 (.slice false true 0 []) (.slice false true 0 [])) := by
 rw [C, callW_eq _ _ rfl]; kernel_rfl
theorem leb_S33_eq (a0 a1 a2 : PV) : C k_leb_S33 [a0, a1, a2] =
 trunc (M.bind (C k_leb_number_int64_int64 [(strip (strip a0)), (strip (strip a1)), (strip (strip a2)), (.fn k_leb_s33 [] [])]) fun t12_0 =>
 M.bind (ex 0 t12_0) fun t13_1 =>
 M.bind (ex 1 (tupDrop 0 t12_0)) fun t14_2 =>
 M.bind (ex 2 (tupDrop 1 (tupDrop 0 t12_0))) fun t15_3 =>
 resT t13_1 (resT t14_2 (resT t15_3 (M.pure (.tup [t13_1, t14_2, t15_3]))))) := by
 rw [C, callW_eq _ _ rfl]; kernel_rfl
noncomputable def p_entry_got_int64_11 (v0 v1 v2 v8 : PV) : M PV := atP P X k_entry_got_int64 [1, 1] (mkEnv 20 0 [(0, v0), (1, v1), (2, v2), (8, v8)])
theorem p_entry_got_int64_11_eq (v0 v1 v2 v8 : PV) : p_entry_got_int64_11 v0 v1 v2 v8 =
 M.bind (nc P (strip v0)) fun t17_0 =>
 M.bind (fa 1 t17_0) fun t18_1 =>
 M.bind (st 1 true t18_1 v2) fun _ =>
 resT v1 (M.pure v1) :=
 (atP_step P X _ _ _).trans (by kernel_rfl)
theorem entry_got_int64_eq (a0 a1 a2 a3 : PV) : C k_entry_got_int64 [a0, a1, a2, a3] =
 trunc (M.bind (bi .neq .none (strip a3) (.int .i64 0)) fun t10_0 =>
 condM t10_0
 (M.bind (C k_entry_cursor_fail [(strip (strip a0)), (strip (strip a2)), (strip (strip a3))]) fun t14_1 =>
 p_entry_got_int64_11 a0 a1 a2 (.int .i64 0))
 (p_entry_got_int64_11 a0 a1 a2 (.int .i64 0))) := by
 rw [C, callW_eq _ _ rfl]; kernel_rfl
theorem entry_cursor_u32_eq (a0 : PV) : C k_entry_cursor_u32 [a0] =
 trunc (M.bind (noPan (M.pure (strip a0))) fun t7_21 =>
 M.bind (noPan (nc P t7_21)) fun t8_22 =>
 M.bind (noPan (fa 0 t8_22)) fun t9_23 =>
 M.bind (noPan (M.pure (strip a0))) fun t11_24 =>
 M.bind (noPan (nc P t11_24)) fun t12_25 =>
 M.bind (noPan (fa 1 t12_25)) fun t13_26 =>
 M.bind (noPan (M.pure (strip a0))) fun t15_27 =>
 M.bind (noPan (nc P t15_27)) fun t16_28 =>
 M.bind (noPan (fa 0 t16_28)) fun t17_29 =>
 M.bind (noPan (ld none false t9_23)) fun t10_30 =>
 M.bind (noPan (ld none false t13_26)) fun t14_31 =>
 M.bind (noPan (ld none false t17_29)) fun t18_32 =>
 M.bind (noPan (lnL t18_32)) fun t19_33 =>
 M.bind (noPan (C k_leb_U32 [(strip t10_30), (strip t14_31), (strip t19_33)])) fun t20_34 =>
 M.bind (noPan (M.pure (strip t20_34))) fun t6_35 =>
 M.bind (noPan (ex 0 t6_35)) fun t21_36 =>
 M.bind (noPan (ex 1 (tupDrop 0 t6_35))) fun t22_37 =>
 M.bind (noPan (ex 2 (tupDrop 1 (tupDrop 0 t6_35)))) fun t23_38 =>
 M.bind (noPan (M.pure t21_36)) fun t3_39 =>
 M.bind (noPan (M.pure t22_37)) fun t4_40 =>
 M.bind (noPan (M.pure t23_38)) fun t5_41 =>
 M.bind (C k_entry_got_uint32 [(strip (strip a0)), (strip (strip t3_39)), (strip (strip t4_40)), (strip (strip t5_41))]) fun t28_42 =>
 resT t28_42 (M.pure t28_42)) := by
 rw [C, callW_eq _ _ rfl]; kernel_rfl
noncomputable def p_entry_each_api_ValType_1 (v0 v1 v3 : PV) : M PV := atP P X k_entry_each_api_ValType [1] (mkEnv 31 0 [(0, v0), (1, v1), (3, v3)])
noncomputable def p_entry_each_api_ValType_1110 (v3 v21 v22 v23 : PV) : M PV := atP P X k_entry_each_api_ValType [1, 1, 1, 0] (mkEnv 31 0 [(3, v3), (21, v21), (22, v22), (23, v23)])
theorem p_entry_each_api_ValType_1_eq (v0 v1 v3 : PV) : p_entry_each_api_ValType_1 v0 v1 v3 =
 M.bind (lnL (strip v1)) fun t18_0 =>
 M.bind (cv (.int .u64) true t18_0) fun t19_1 =>
 M.bind (C k_entry_pen_u [(strip (strip v0)), (strip t19_1)]) fun t20_2 =>
 M.bind (lnL (strip v1)) fun t22_3 =>
 p_entry_each_api_ValType_1110 v3 (strip v1) t22_3 (.int .i64 0) :=
 (atP_step P X _ _ _).trans (by kernel_rfl)
theorem p_entry_each_api_ValType_1110_eq (v3 v21 v22 v23 : PV) : p_entry_each_api_ValType_1110 v3 v21 v22 v23 =
 M.bind (bi .lss .none v23 v22) fun t24_0 =>
 condM t24_0
 (M.bind (iaS 3 v21 v23) fun t25_1 =>
 M.bind (ld (some 3) true t25_1) fun t26_2 =>
 M.bind (al [(.int .i64 0), (.bool false), (.int .i64 0)]) fun t9_3 =>
 M.bind (st 3 true t9_3 t26_2) fun _ =>
 M.bind (ld (some 3) false t9_3) fun t28_5 =>
 M.bind (callV P C (strip v3) [(strip t28_5)]) fun t29_6 =>
 M.bind (bi .add .none v23 (.int .i64 1)) fun t30_7 =>
 p_entry_each_api_ValType_1110 v3 v21 v22 (strip t30_7))
 (M.pure (.tup [])) :=
 (atP_step P X _ _ _).trans (by kernel_rfl)
theorem entry_each_api_ValType_eq (a0 a1 a2 a3 : PV) : C k_entry_each_api_ValType [a0, a1, a2, a3] =
 trunc (M.bind (lnL (strip a1)) fun t11_0 =>
 M.bind (bi .gtr .none t11_0 (strip a2)) fun t13_1 =>
 condM t13_1
 (M.bind (bd [(.int .i64 0), (.int .i64 0)] [(0, 1, (.int .i64 0)), (1, 1, (.int .i64 2))]) fun t14_2 =>
 M.bind (mi y_entry_fault t14_2) fun t15_3 =>
 M.bind (pn t15_3) fun _ =>
 p_entry_each_api_ValType_1 a0 a1 a3)
 (p_entry_each_api_ValType_1 a0 a1 a3)) := by
 rw [C, callW_eq _ _ rfl]; kernel_rfl
theorem entry_pen_flag_eq (a0 a1 : PV) : C k_entry_pen_flag [a0, a1] =
 trunc (condM (strip a1)
 (M.bind (C k_entry_pen_byte [(strip (strip a0)), (.int .u8 1)]) fun t6_0 =>
 M.pure (.tup []))
 (M.bind (C k_entry_pen_byte [(strip (strip a0)), (.int .u8 0)]) fun t8_1 =>
 M.pure (.tup []))) := by
 rw [C, callW_eq _ _ rfl]; kernel_rfl
theorem leb_number_int64_int64_eq (a0 a1 a2 a3 : PV) : C k_leb_number_int64_int64 [a0, a1, a2, a3] =
 trunc (M.bind (C k_leb_opened [(strip (strip a0)), (strip (strip a1)), (strip (strip a2))]) fun t19_0 =>
 M.bind (ex 0 (strip t19_0)) fun t20_1 =>
 M.bind (ex 1 (tupDrop 0 (strip t19_0))) fun t21_2 =>
 M.bind (al [(.slice false true 0 []), (.int .i64 0), (.int .i64 0)]) fun t11_3 =>
 M.bind (st 3 true t11_3 t20_1) fun _ =>
 M.bind (bi .neq .none (strip t21_2) (.int .i64 0)) fun t23_5 =>
 condM t23_5
 (resT t21_2 (M.pure (.tup [(.int .i64 0), (.int .i64 0), t21_2])))
 (M.bind (ld (some 3) false t11_3) fun t27_6 =>
 M.bind (callV P C (strip a3) [(strip t27_6)]) fun t28_7 =>
 M.bind (ex 0 (strip t28_7)) fun t29_8 =>
 M.bind (ex 1 (tupDrop 0 (strip t28_7))) fun t30_9 =>
 M.bind (ex 2 (tupDrop 1 (tupDrop 0 (strip t28_7)))) fun t31_10 =>
 resT t29_8 (resT t30_9 (resT t31_10 (M.pure (.tup [t29_8, t30_9, t31_10])))))) := by
 rw [C, callW_eq _ _ rfl]; kernel_rfl
theorem leb_s33_eq (a0 : PV) : C k_leb_s33 [a0] =
 trunc (M.bind (bx 3 a0) fun t1_0 =>
 M.bind (ld (some 3) false t1_0) fun t5_1 =>
 M.bind (C k_leb_window_signed [(strip t5_1), (.int .i64 33)]) fun t6_2 =>
 M.bind (ex 0 t6_2) fun t7_3 =>
 M.bind (ex 1 (tupDrop 0 t6_2)) fun t8_4 =>
 M.bind (ex 2 (tupDrop 1 (tupDrop 0 t6_2))) fun t9_5 =>
 resT t7_3 (resT t8_4 (resT t9_5 (M.pure (.tup [t7_3, t8_4, t9_5]))))) := by
 rw [C, callW_eq _ _ rfl]; kernel_rfl
theorem leb_U32_eq (a0 a1 a2 : PV) : C k_leb_U32 [a0, a1, a2] =
 trunc (M.bind (C k_leb_number_uint32_uint64 [(strip (strip a0)), (strip (strip a1)), (strip (strip a2)), (.fn k_leb_u32 [] [])]) fun t12_0 =>
 M.bind (ex 0 t12_0) fun t13_1 =>
 M.bind (ex 1 (tupDrop 0 t12_0)) fun t14_2 =>
 M.bind (ex 2 (tupDrop 1 (tupDrop 0 t12_0))) fun t15_3 =>
 resT t13_1 (resT t14_2 (resT t15_3 (M.pure (.tup [t13_1, t14_2, t15_3]))))) := by
 rw [C, callW_eq _ _ rfl]; kernel_rfl
noncomputable def p_entry_got_uint32_11 (v0 v1 v2 v8 : PV) : M PV := atP P X k_entry_got_uint32 [1, 1] (mkEnv 20 0 [(0, v0), (1, v1), (2, v2), (8, v8)])
theorem p_entry_got_uint32_11_eq (v0 v1 v2 v8 : PV) : p_entry_got_uint32_11 v0 v1 v2 v8 =
 M.bind (nc P (strip v0)) fun t17_0 =>
 M.bind (fa 1 t17_0) fun t18_1 =>
 M.bind (st 1 true t18_1 v2) fun _ =>
 resT v1 (M.pure v1) :=
 (atP_step P X _ _ _).trans (by kernel_rfl)
theorem entry_got_uint32_eq (a0 a1 a2 a3 : PV) : C k_entry_got_uint32 [a0, a1, a2, a3] =
 trunc (M.bind (bi .neq .none (strip a3) (.int .i64 0)) fun t10_0 =>
 condM t10_0
 (M.bind (C k_entry_cursor_fail [(strip (strip a0)), (strip (strip a2)), (strip (strip a3))]) fun t14_1 =>
 p_entry_got_uint32_11 a0 a1 a2 (.int .u32 0))
 (p_entry_got_uint32_11 a0 a1 a2 (.int .u32 0))) := by
 rw [C, callW_eq _ _ rfl]; kernel_rfl
end Go.Proofs.Ytofbbijagbpicaa.Pi.Q
namespace Go.Proofs.Ytofbbijagbpicaa.Pi.Q
open Go Go.Proofs.Ytofbbijagbpicaa.Pi
set_option linter.unusedVariables false
set_option maxRecDepth 100000
theorem leb_opened_eq (a0 a1 a2 : PV) : C k_leb_opened [a0, a1, a2] =
 trunc (M.bind (al [(.slice false true 0 []), (.int .i64 0), (.int .i64 0)]) fun t6_0 =>
 M.bind (bi .lss .none (strip a1) (.int .i64 0)) fun t9_1 =>
 M.bind (gd (strip t9_1) false (M.pure (strip a2))) fun t11_2 =>
 M.bind (gd (strip t9_1) false (M.pure (strip a0))) fun t12_3 =>
 M.bind (gd (strip t9_1) false (lnL t12_3)) fun t13_4 =>
 M.bind (gd (strip t9_1) false (bi .gtr .none t11_2 t13_4)) fun t14_5 =>
 M.bind (pick (strip t9_1) (.bool true) t14_5) fun t15_6 =>
 M.bind (gd (strip t15_6) false (M.pure (strip a1))) fun t17_7 =>
 M.bind (gd (strip t15_6) false (M.pure (strip a2))) fun t18_8 =>
 M.bind (gd (strip t15_6) false (bi .gtr .none t17_7 t18_8)) fun t19_9 =>
 M.bind (pick (strip t15_6) (.bool true) t19_9) fun t20_10 =>
 condM t20_10
 (M.bind (bd [(.slice false true 0 []), (.int .i64 0), (.int .i64 0)] []) fun t21_11 =>
 M.bind (st 3 true t6_0 t21_11) fun _ =>
 M.bind (ld (some 3) true t6_0) fun t0_13 => guardM (!isTup t0_13) (M.pure (.tup [t0_13, (.int .i64 1)])))
 (M.bind (bd [(.slice false true 0 []), (.int .i64 0), (.int .i64 0)] [(0, 1, (strip a0)), (1, 1, (strip a1)), (2, 1, (strip a2))]) fun t25_14 =>
 M.bind (st 3 true t6_0 t25_14) fun _ =>
 M.bind (ld (some 3) true t6_0) fun t0_16 => guardM (!isTup t0_16) (M.pure (.tup [t0_16, (.int .i64 0)])))) := by
 rw [C, callW_eq _ _ rfl]; kernel_rfl
noncomputable def p_leb_window_signed_1110 (v1 v2 v4 v5 v6 v7 v8 v9 : PV) : M PV := atP P X k_leb_window_signed [1, 1, 1, 0] (mkEnv 74 0 [(1, v1), (2, v2), (4, v4), (5, v5), (6, v6), (7, v7), (8, v8), (9, v9)])
noncomputable def p_leb_window_signed_1110000111 (v1 v2 v4 v5 v6 v7 v8 v9 v10 : PV) : M PV := atP P X k_leb_window_signed [1, 1, 1, 0, 0, 0, 0, 1, 1, 1] (mkEnv 74 0 [(1, v1), (2, v2), (4, v4), (5, v5), (6, v6), (7, v7), (8, v8), (9, v9), (10, v10)])
noncomputable def p_leb_window_signed_111000011111101 (v1 v2 v4 v5 v6 v7 v8 v9 : PV) : M PV := atP P X k_leb_window_signed [1, 1, 1, 0, 0, 0, 0, 1, 1, 1, 1, 1, 1, 0, 1] (mkEnv 74 0 [(1, v1), (2, v2), (4, v4), (5, v5), (6, v6), (7, v7), (8, v8), (9, v9)])
theorem p_leb_window_signed_1110_eq (v1 v2 v4 v5 v6 v7 v8 v9 : PV) : p_leb_window_signed_1110 v1 v2 v4 v5 v6 v7 v8 v9 =
 M.bind (fa 2 v2) fun t18_0 =>
 M.bind (ld none false t18_0) fun t19_1 =>
 M.bind (bi .geq .none (strip v9) t19_1) fun t20_2 =>
 condM t20_2
 (nb (fa 2 v2) fun t21_3 =>
 nb (ld none true t21_3) fun t22_4 =>
 resT t22_4 (M.pure (.tup [(.int .i64 0), t22_4, (.int .i64 3)])))
 (M.bind (fa 0 v2) fun t23_5 =>
 M.bind (ld none false t23_5) fun t24_6 =>
 M.bind (iaS 1 t24_6 (strip v9)) fun t26_7 =>
 M.bind (ld none true t26_7) fun t27_8 =>
 M.bind (bi .sub .none (strip v1) (strip v8)) fun t30_9 =>
 M.bind (bi .lss .none (strip t30_9) (.int .i64 7)) fun t32_10 =>
 condM t32_10
 (M.bind (bi .shl .none (strip t27_8) (.int .u64 1)) fun t34_11 =>
 M.bind (cv (.int .i8) true t34_11) fun t35_12 =>
 M.bind (bi .shr .none t35_12 (strip t30_9)) fun t37_13 =>
 M.bind (bi .geq .none (strip t27_8) (.int .u8 128)) fun t39_14 =>
 M.bind (gd (strip t39_14) false (M.pure (strip t37_13))) fun t41_15 =>
 M.bind (gd (strip t39_14) false (bi .neq .none t41_15 (.int .i8 0))) fun t42_16 =>
 M.bind (gd (strip t39_14) false (M.pure (strip t42_16))) fun t43_17 =>
 M.bind (gd t43_17 true (M.pure (strip t37_13))) fun t44_18 =>
 M.bind (gd t43_17 true (bi .neq .none t44_18 (.int .i8 (-1)))) fun t45_19 =>
 M.bind (gd (strip t39_14) false (pick t43_17 t45_19 (.bool false))) fun t46_20 =>
 M.bind (pick (strip t39_14) (.bool true) t46_20) fun t47_21 =>
 condM t47_21
 (resT v9 (M.pure (.tup [(.int .i64 0), v9, (.int .i64 4)])))
 (p_leb_window_signed_1110000111 v1 v2 v4 v5 v6 v7 v8 v9 t27_8))
 (p_leb_window_signed_1110000111 v1 v2 v4 v5 v6 v7 v8 v9 t27_8)) :=
 (atP_step P X _ _ _).trans (by kernel_rfl)
theorem p_leb_window_signed_1110000111_eq (v1 v2 v4 v5 v6 v7 v8 v9 v10 : PV) : p_leb_window_signed_1110000111 v1 v2 v4 v5 v6 v7 v8 v9 v10 =
 M.bind (bi .and .none (strip v10) (.int .u8 127)) fun t51_0 =>
 M.bind (cv (.int .i64) true t51_0) fun t52_1 =>
 M.bind (bi .shl .none t52_1 (strip v8)) fun t54_2 =>
 M.bind (bi .or .none (strip v7) t54_2) fun t55_3 =>
 M.bind (bi .add .none (strip v8) (.int .i64 7)) fun t57_4 =>
 M.bind (bi .lss .none (strip v10) (.int .u8 128)) fun t59_5 =>
 condM t59_5
 (M.bind (bi .and .none (strip v10) (.int .u8 64)) fun t61_6 =>
 M.bind (bi .neq .none t61_6 (.int .u8 0)) fun t62_7 =>
 M.bind (gd (strip t62_7) true (M.pure (strip t57_4))) fun t64_8 =>
 M.bind (gd (strip t62_7) true (bi .lss .none t64_8 (.int .i64 64))) fun t65_9 =>
 M.bind (pick (strip t62_7) t65_9 (.bool false)) fun t66_10 =>
 condM t66_10
 (M.bind (bi .shl .none (.int .i64 (-1)) (strip t57_4)) fun t69_11 =>
 M.bind (bi .or .none (strip t55_3) t69_11) fun t70_12 =>
 p_leb_window_signed_111000011111101 v1 v2 v4 v5 v6 t70_12 t57_4 v9)
 (p_leb_window_signed_111000011111101 v1 v2 v4 v5 v6 t55_3 t57_4 v9))
 (M.bind (bi .add .none (strip v9) (.int .i64 1)) fun t16_13 =>
 p_leb_window_signed_1110 v1 v2 v4 v5 v6 t55_3 t57_4 t16_13) :=
 (atP_step P X _ _ _).trans (by kernel_rfl)
theorem p_leb_window_signed_111000011111101_eq (v1 v2 v4 v5 v6 v7 v8 v9 : PV) : p_leb_window_signed_111000011111101 v1 v2 v4 v5 v6 v7 v8 v9 =
 M.bind (bi .add .none (strip v9) (.int .i64 1)) fun t73_0 =>
 resT v7 (resT t73_0 (M.pure (.tup [v7, t73_0, (.int .i64 0)]))) :=
 (atP_step P X _ _ _).trans (by kernel_rfl)
theorem leb_window_signed_eq (a0 a1 : PV) : C k_leb_window_signed [a0, a1] =
 trunc (M.bind (bx 3 a0) fun t2_0 =>
 M.bind (fa 1 t2_0) fun t13_1 =>
 M.bind (ld none true t13_1) fun t14_2 =>
 p_leb_window_signed_1110 a1 t2_0 (.int .i64 0) (.int .i64 0) (.int .i64 0) (.int .i64 0) (.int .i64 0) t14_2) := by
 rw [C, callW_eq _ _ rfl]; kernel_rfl
theorem leb_number_uint32_uint64_eq (a0 a1 a2 a3 : PV) : C k_leb_number_uint32_uint64 [a0, a1, a2, a3] =
 trunc (M.bind (C k_leb_opened [(strip (strip a0)), (strip (strip a1)), (strip (strip a2))]) fun t19_0 =>
 M.bind (ex 0 (strip t19_0)) fun t20_1 =>
 M.bind (ex 1 (tupDrop 0 (strip t19_0))) fun t21_2 =>
 M.bind (al [(.slice false true 0 []), (.int .i64 0), (.int .i64 0)]) fun t11_3 =>
 M.bind (st 3 true t11_3 t20_1) fun _ =>
 M.bind (bi .neq .none (strip t21_2) (.int .i64 0)) fun t23_5 =>
 condM t23_5
 (resT t21_2 (M.pure (.tup [(.int .u32 0), (.int .i64 0), t21_2])))
 (M.bind (ld (some 3) false t11_3) fun t27_6 =>
 M.bind (callV P C (strip a3) [(strip t27_6)]) fun t28_7 =>
 M.bind (ex 0 (strip t28_7)) fun t29_8 =>
 M.bind (ex 1 (tupDrop 0 (strip t28_7))) fun t30_9 =>
 M.bind (ex 2 (tupDrop 1 (tupDrop 0 (strip t28_7)))) fun t31_10 =>
 M.bind (cv (.int .u32) true (strip t29_8)) fun t33_11 =>
 resT t33_11 (resT t30_9 (resT t31_10 (M.pure (.tup [t33_11, t30_9, t31_10])))))) := by
 rw [C, callW_eq _ _ rfl]; kernel_rfl
theorem leb_u32_eq (a0 : PV) : C k_leb_u32 [a0] =
 trunc (M.bind (bx 3 a0) fun t1_0 =>
 M.bind (ld (some 3) false t1_0) fun t5_1 =>
 M.bind (C k_leb_window_unsigned [(strip t5_1), (.int .i64 32)]) fun t6_2 =>
 M.bind (ex 0 t6_2) fun t7_3 =>
 M.bind (ex 1 (tupDrop 0 t6_2)) fun t8_4 =>
 M.bind (ex 2 (tupDrop 1 (tupDrop 0 t6_2))) fun t9_5 =>
 resT t7_3 (resT t8_4 (resT t9_5 (M.pure (.tup [t7_3, t8_4, t9_5]))))) := by
 rw [C, callW_eq _ _ rfl]; kernel_rfl
noncomputable def p_leb_window_unsigned_1110 (v1 v2 v4 v5 v6 v7 v8 v9 : PV) : M PV := atP P X k_leb_window_unsigned [1, 1, 1, 0] (mkEnv 53 0 [(1, v1), (2, v2), (4, v4), (5, v5), (6, v6), (7, v7), (8, v8), (9, v9)])
theorem p_leb_window_unsigned_1110_eq (v1 v2 v4 v5 v6 v7 v8 v9 : PV) : p_leb_window_unsigned_1110 v1 v2 v4 v5 v6 v7 v8 v9 =
 M.bind (fa 2 v2) fun t17_0 =>
 M.bind (ld none false t17_0) fun t18_1 =>
 M.bind (bi .geq .none (strip v9) t18_1) fun t19_2 =>
 condM t19_2
 (nb (fa 2 v2) fun t20_3 =>
 nb (ld none true t20_3) fun t21_4 =>
 resT t21_4 (M.pure (.tup [(.int .u64 0), t21_4, (.int .i64 3)])))
 (M.bind (fa 0 v2) fun t22_5 =>
 M.bind (ld none false t22_5) fun t23_6 =>
 M.bind (iaS 1 t23_6 (strip v9)) fun t25_7 =>
 M.bind (ld none true t25_7) fun t26_8 =>
 M.bind (bi .sub .none (strip v1) (strip v8)) fun t29_9 =>
 M.bind (bi .lss .none (strip t29_9) (.int .i64 7)) fun t31_10 =>
 M.bind (gd (strip t31_10) true (M.pure (strip t26_8))) fun t33_11 =>
 M.bind (gd (strip t31_10) true (M.pure (strip t29_9))) fun t34_12 =>
 M.bind (gd (strip t31_10) true (bi .shr .none t33_11 t34_12)) fun t35_13 =>
 M.bind (gd (strip t31_10) true (bi .neq .none t35_13 (.int .u8 0))) fun t36_14 =>
 M.bind (pick (strip t31_10) t36_14 (.bool false)) fun t37_15 =>
 condM t37_15
 (resT v9 (M.pure (.tup [(.int .u64 0), v9, (.int .i64 4)])))
 (M.bind (bi .and .none (strip t26_8) (.int .u8 127)) fun t41_16 =>
 M.bind (cv (.int .u64) true t41_16) fun t42_17 =>
 M.bind (bi .shl .none t42_17 (strip v8)) fun t44_18 =>
 M.bind (bi .or .none (strip v7) t44_18) fun t45_19 =>
 M.bind (bi .lss .none (strip t26_8) (.int .u8 128)) fun t47_20 =>
 condM t47_20
 (M.bind (bi .add .none (strip v9) (.int .i64 1)) fun t50_21 =>
 resT t45_19 (resT t50_21 (M.pure (.tup [t45_19, t50_21, (.int .i64 0)]))))
 (M.bind (bi .add .none (strip v8) (.int .i64 7)) fun t52_22 =>
 M.bind (bi .add .none (strip v9) (.int .i64 1)) fun t15_23 =>
 p_leb_window_unsigned_1110 v1 v2 v4 v5 v6 t45_19 t52_22 t15_23))) :=
 (atP_step P X _ _ _).trans (by kernel_rfl)
theorem leb_window_unsigned_eq (a0 a1 : PV) : C k_leb_window_unsigned [a0, a1] =
 trunc (M.bind (bx 3 a0) fun t2_0 =>
 M.bind (fa 1 t2_0) fun t12_1 =>
 M.bind (ld none true t12_1) fun t13_2 =>
 p_leb_window_unsigned_1110 a1 t2_0 (.int .u64 0) (.int .i64 0) (.int .i64 0) (.int .u64 0) (.int .i64 0) t13_2) := by
 rw [C, callW_eq _ _ rfl]; kernel_rfl
end Go.Proofs.Ytofbbijagbpicaa.Pi.Q
namespace Go.Proofs.Ytofbbijagbpicaa.Pi.Q
open Go Go.Proofs.Ytofbbijagbpicaa.Pi
set_option linter.unusedVariables false
set_option linter.unusedSimpArgs false
set_option maxRecDepth 100000
attribute [local congr] ite_congr
def retU : Rs Nat → PV
  | .ok n p => .tup [.int .u64 n, .int .i64 p, .int .i64 0]
  | .err p e => .tup [.int .u64 0, .int .i64 p, .int .i64 e]
theorem dig_lt {B s x : Nat} (hB : B ≤ 64) (hi : s < B) (hx : x < 2 ^ (B - s)) : x * 2 ^ s < 2 ^ 64 := by
  have h1 : (x + 1) * 2 ^ s ≤ 2 ^ (B - s) * 2 ^ s := Nat.mul_le_mul_right _ hx
  have h2 : 2 ^ (B - s) * 2 ^ s = 2 ^ B := by rw [← Nat.pow_add, Nat.sub_add_cancel (by omega)]
  have h3 : 2 ^ B ≤ 2 ^ 64 := Nat.pow_le_pow_right (by omega) hB
  have h4 := Nat.pow_pos (n := s) (show 0 < 2 by omega)
  rw [Nat.add_mul] at h1
  omega
theorem uns_round {H : Heap} {b : List UInt8} {z : Bool} {id a e B s n p : Nat} {x y w : PV} (hH : hget H id = some (.cells [BS z b, .int .i64 a, .int .i64 e]))
    (he : e ≤ b.length) (hb : b.length < 2 ^ 62) (hB : B ≤ 64) (hi : s < B) (hn : n < 2 ^ s) :
    run (p_leb_window_unsigned_1110 (.int .i64 B) (.ptr id 0) x y w (.int .u64 n) (.int .i64 s) (.int .i64 p)) H =
      if p < e then
        if B < s + 7 ∧ (b.getD p 0).toNat / 2 ^ (B - s) ≠ 0 then some (.ok (retU (.err p 4)) H)
        else if (b.getD p 0).toNat < 128 then some (.ok (retU (.ok (n + (b.getD p 0).toNat * 2 ^ s) (p + 1))) H)
        else run (p_leb_window_unsigned_1110 (.int .i64 B) (.ptr id 0) x y w (.int .u64 (n + (b.getD p 0).toNat % 128 * 2 ^ s : Nat)) (.int .i64 (s + 7 : Nat)) (.int .i64 (p + 1 : Nat))) H
      else some (.ok (retU (.err e 3)) H) := by
  have hid := get_lt hH
  have hset := set_self hH
  rw [p_leb_window_unsigned_1110_eq]
  by_cases hpe : p < e
  · have hpb : p < b.length := by omega
    have hg := byt_get hpb
    have hgd : b.getD p 0 = b[p] := by simp [hpb]
    rw [hgd]
    generalize b[p] = c at hg hgd ⊢
    have hc := byt_lt c
    generalize hcn : c.toNat = cn at hc
    have s1 : (B : Int) - (s : Int) = ((B - s : Nat) : Int) := by omega
    simp (contextual := true) (dsimp := false) (disch := omega) only [↓goDown, goUp, List.length_cons, List.length_nil, List.map_cons, List.map_nil, List.take_succ_cons, List.take_zero, List.drop_succ_cons, List.drop_zero, List.drop_nil, List.take_nil, List.cons_append, List.nil_append, List.append_nil, List.set_cons_zero, List.set_cons_succ, List.all_cons, List.all_nil, ↓reduceIte, reduceCtorEq, ge_iff_le, gt_iff_lt, eq_self_iff_true, beq_self_eq_true, beq_iff_eq, bne_iff_ne, ne_eq, ite_not, Int.reduceEq, Option.getD_some, Option.getD_none, ite_self, Nat.reduceAdd, Nat.reduceSub, Nat.reduceMul, Nat.reduceLeDiff, Nat.reduceEqDiff, Nat.reduceBEq, Nat.reduceBNe, Int.reduceLT, Int.reduceLE, Int.reduceAdd, Int.reduceSub, Int.reduceMul, Int.reduceNeg, Int.reduceNe, Int.reduceBEq, Int.reduceBNe, Int.reduceToNat, hH, hg, byt, hcn, hset, s1, run_and, and127, run_shl, run_shr, run_or, Int.toNat_natCast]
    have c0 : ¬ (e : Int) ≤ p := by omega
    rw [if_neg c0, if_pos hpe]
    have key : cn % 128 < 2 ^ (B - s) → IntKind.u64.wrap ((BitVec.ofInt IntKind.u64.bits (n : Int) ||| BitVec.ofInt IntKind.u64.bits (IntKind.u64.wrap (((cn % 128 : Nat) : Int) * 2 ^ shiftN .u64 (s : Int)))).toNat : Int) = ((n + cn % 128 * 2 ^ s : Nat) : Int) :=
      fun h => (join_u64 (by omega) hn (dig_lt hB hi h)).1
    have tail : cn % 128 < 2 ^ (B - s) → ∀ r, (if (cn : Int) < 128 then some (Out.ok (PV.tup [PV.int IntKind.u64 (IntKind.u64.wrap ((BitVec.ofInt IntKind.u64.bits (n : Int) ||| BitVec.ofInt IntKind.u64.bits (IntKind.u64.wrap (((cn % 128 : Nat) : Int) * 2 ^ shiftN .u64 (s : Int)))).toNat : Int)), PV.int IntKind.i64 (p + 1), PV.int IntKind.i64 0]) H) else r) =
        if cn < 128 then some (Out.ok (retU (Rs.ok (n + cn * 2 ^ s) (p + 1))) H) else r := by
      intro h r
      rw [key h]
      by_cases h1 : cn < 128
      · have c1 : (cn : Int) < 128 := by omega
        rw [if_pos h1, if_pos c1, Nat.mod_eq_of_lt h1]; rfl
      · have c1 : ¬ (cn : Int) < 128 := by omega
        rw [if_neg h1, if_neg c1]
    by_cases h7 : B - s < 7
    · have c1 : ((B - s : Nat) : Int) < 7 := by omega
      have c0 : B < s + 7 := by omega
      rw [if_pos c1, shr_u8 cn (s := B - s) (by omega)]
      by_cases hd : cn / 2 ^ (B - s) = 0
      · have hlt : cn < 2 ^ (B - s) := by
          rcases Nat.div_eq_zero_iff.mp hd with h | h
          · have := Nat.pow_pos (n := B - s) (show 0 < 2 by omega); omega
          · exact h
        have hlt2 : cn % 128 < 2 ^ (B - s) := Nat.lt_of_le_of_lt (Nat.mod_le _ _) hlt
        have c2 : ((cn / 2 ^ (B - s) : Nat) : Int) = 0 := by omega
        have c3 : ¬ (B < s + 7 ∧ ¬ cn / 2 ^ (B - s) = 0) := fun h => h.2 hd
        rw [if_pos c2, if_neg c3, tail hlt2, key hlt2]
        rfl
      · have c2 : ¬ ((cn / 2 ^ (B - s) : Nat) : Int) = 0 := by omega
        have c3 : B < s + 7 ∧ ¬ cn / 2 ^ (B - s) = 0 := ⟨c0, hd⟩
        rw [if_neg c2, if_pos c3]; rfl
    · have hlt2 : cn % 128 < 2 ^ (B - s) := by
        have : 2 ^ 7 ≤ 2 ^ (B - s) := Nat.pow_le_pow_right (by omega) (by omega)
        omega
      have c1 : ¬ ((B - s : Nat) : Int) < 7 := by omega
      have c3 : ¬ (B < s + 7 ∧ ¬ cn / 2 ^ (B - s) = 0) := by omega
      rw [if_neg c1, if_neg c3, tail hlt2, key hlt2]
      rfl
  · have c0 : (e : Int) ≤ p := by omega
    simp (contextual := true) (dsimp := false) (disch := omega) only [↓goDown, goUp, List.length_cons, List.length_nil, List.map_cons, List.map_nil, List.take_succ_cons, List.take_zero, List.drop_succ_cons, List.drop_zero, List.drop_nil, List.take_nil, List.cons_append, List.nil_append, List.append_nil, List.set_cons_zero, List.set_cons_succ, List.all_cons, List.all_nil, ↓reduceIte, reduceCtorEq, ge_iff_le, gt_iff_lt, eq_self_iff_true, beq_self_eq_true, beq_iff_eq, bne_iff_ne, ne_eq, ite_not, Int.reduceEq, Option.getD_some, Option.getD_none, ite_self, Nat.reduceAdd, Nat.reduceSub, Nat.reduceMul, Nat.reduceLeDiff, Nat.reduceEqDiff, Nat.reduceBEq, Nat.reduceBNe, Int.reduceLT, Int.reduceLE, Int.reduceAdd, Int.reduceSub, Int.reduceMul, Int.reduceNeg, Int.reduceNe, Int.reduceBEq, Int.reduceBNe, Int.reduceToNat, hH, hset, c0]
    rw [if_neg hpe]
    rfl
theorem uns_loop {H : Heap} {b : List UInt8} {z : Bool} {id a e B : Nat} {x y w : PV} (hH : hget H id = some (.cells [BS z b, .int .i64 a, .int .i64 e]))
    (he : e ≤ b.length) (hb : b.length < 2 ^ 62) (hB : B ≤ 64) (hB7 : B % 7 ≠ 0) : ∀ (f i n p : Nat), 7 * i < B → B ≤ 7 * (i + f) → n < 2 ^ (7 * i) →
    run (p_leb_window_unsigned_1110 (.int .i64 B) (.ptr id 0) x y w (.int .u64 n) (.int .i64 (7 * i : Nat)) (.int .i64 p)) H = some (.ok (retU (lebU b B e f i n p)) H)
  | 0, i, n, p, hi, hf, hn => by omega
  | f + 1, i, n, p, hi, hf, hn => by
    rw [uns_round hH he hb hB hi hn]
    unfold lebU
    by_cases h1 : p < e
    · simp only [if_pos h1]
      by_cases h2 : B < 7 * i + 7 ∧ (b.getD p 0).toNat / 2 ^ (B - 7 * i) ≠ 0
      · simp only [if_pos h2]
      · simp only [if_neg h2]
        by_cases h3 : (b.getD p 0).toNat < 128
        · simp only [if_pos h3]
        · simp only [if_neg h3]
          have h7 : ¬ B < 7 * i + 7 := by
            intro h
            refine h2 ⟨h, fun h0 => ?_⟩
            rcases Nat.div_eq_zero_iff.mp h0 with h | h'
            · have := Nat.pow_pos (n := B - 7 * i) (show 0 < 2 by omega); omega
            · have : 2 ^ (B - 7 * i) ≤ 2 ^ 6 := Nat.pow_le_pow_right (by omega) (by omega)
              omega
          by_cases h8 : 7 * (i + 1) < B
          · refine uns_loop hH he hb hB hB7 f (i + 1) _ (p + 1) h8 (by omega) ?_
            have h4 : 2 ^ (7 * (i + 1)) = 128 * 2 ^ (7 * i) := by rw [Nat.mul_add, Nat.pow_add, Nat.mul_comm]
            have h5 : (b.getD p 0).toNat % 128 * 2 ^ (7 * i) ≤ 127 * 2 ^ (7 * i) := Nat.mul_le_mul_right _ (by omega)
            omega
          · omega
    · simp only [if_neg h1]
def rdU (b : List UInt8) (B e p : Nat) : Rs Nat := lebU b B e 10 0 0 p
theorem leb_opened_is {H : Heap} {b : List UInt8} {z : Bool} {p e : Int} :
    run (C k_leb_opened [BS z b, .int .i64 p, .int .i64 e]) H = if p < 0 ∨ b.length < e ∨ e < p then some (.ok (.tup [.agg [.slice false true 0 [], .int .i64 0, .int .i64 0], .int .i64 1]) H)
      else some (.ok (.tup [.agg [BS z b, .int .i64 p, .int .i64 e], .int .i64 0]) H) := by
  rw [leb_opened_eq]
  simp (contextual := true) (dsimp := false) (disch := omega) only [↓goDown, goUp, List.length_cons, List.length_nil, List.map_cons, List.map_nil, List.take_succ_cons, List.take_zero, List.drop_succ_cons, List.drop_zero, List.drop_nil, List.take_nil, List.cons_append, List.nil_append, List.append_nil, List.set_cons_zero, List.set_cons_succ, List.all_cons, List.all_nil, ↓reduceIte, reduceCtorEq, ge_iff_le, gt_iff_lt, eq_self_iff_true, beq_self_eq_true, beq_iff_eq, bne_iff_ne, ne_eq, ite_not, Int.reduceEq, Option.getD_some, Option.getD_none, ite_self, Nat.reduceAdd, Nat.reduceSub, Nat.reduceMul, Nat.reduceLeDiff, Nat.reduceEqDiff, Nat.reduceBEq, Nat.reduceBNe, Int.reduceLT, Int.reduceLE, Int.reduceAdd, Int.reduceSub, Int.reduceMul, Int.reduceNeg, Int.reduceNe, Int.reduceBEq, Int.reduceBNe, Int.reduceToNat, List.length_map]
  by_cases h1 : p < 0
  · simp [h1]
  · by_cases h2 : (b.length : Int) < e
    · simp [h1, h2]
    · by_cases h3 : e < p
      · simp [h1, h2, h3]
      · simp [h1, h2, h3]
theorem leb_unsigned_is {H : Heap} {b : List UInt8} {z : Bool} {p e B : Nat} (he : e ≤ b.length) (hb : b.length < 2 ^ 62) (hB : B = 32 ∨ B = 64) :
    run (C k_leb_window_unsigned [.agg [BS z b, .int .i64 p, .int .i64 e], .int .i64 B]) H = some (.ok (retU (rdU b B e p)) H) := by
  rw [leb_window_unsigned_eq]
  have h : ∀ (x y w : PV), run (p_leb_window_unsigned_1110 (.int .i64 B) (.ptr H.length 0) x y w (.int .u64 0) (.int .i64 0) (.int .i64 p)) (hadd H [.cells [BS z b, .int .i64 p, .int .i64 e]]) = some (.ok (retU (rdU b B e p)) (hadd H [.cells [BS z b, .int .i64 p, .int .i64 e]])) :=
    fun x y w => uns_loop (by rw [get_loc0]; rfl) he hb (by omega) (by omega) 10 0 0 p (by omega) (by omega) (by decide)
  have hl : ∀ n, (retU (rdU b B e p)).low n = true := by intro n; unfold retU; split <;> simp [lowL_cons, lowL_nil, low_tup, low_int]
  simp (contextual := true) (dsimp := false) (disch := omega) only [↓goDown, goUp, List.length_cons, List.length_nil, List.map_cons, List.map_nil, List.take_succ_cons, List.take_zero, List.drop_succ_cons, List.drop_zero, List.drop_nil, List.take_nil, List.cons_append, List.nil_append, List.append_nil, List.set_cons_zero, List.set_cons_succ, List.all_cons, List.all_nil, ↓reduceIte, reduceCtorEq, ge_iff_le, gt_iff_lt, eq_self_iff_true, beq_self_eq_true, beq_iff_eq, bne_iff_ne, ne_eq, ite_not, Int.reduceEq, Option.getD_some, Option.getD_none, ite_self, Nat.reduceAdd, Nat.reduceSub, Nat.reduceMul, Nat.reduceLeDiff, Nat.reduceEqDiff, Nat.reduceBEq, Nat.reduceBNe, Int.reduceLT, Int.reduceLE, Int.reduceAdd, Int.reduceSub, Int.reduceMul, Int.reduceNeg, Int.reduceNe, Int.reduceBEq, Int.reduceBNe, Int.reduceToNat, h, hl]
end Go.Proofs.Ytofbbijagbpicaa.Pi.Q
namespace Go.Proofs.Ytofbbijagbpicaa.Pi.Q
open Go Go.Proofs.Ytofbbijagbpicaa.Pi
set_option linter.unusedVariables false
set_option linter.unusedSimpArgs false
set_option maxRecDepth 100000
attribute [local congr] ite_congr
def retS : Rs Int → PV
  | .ok n p => .tup [.int .i64 n, .int .i64 p, .int .i64 0]
  | .err p e => .tup [.int .i64 0, .int .i64 p, .int .i64 e]
theorem sgn_join {H : Heap} {b : List UInt8} {id B s n p c : Nat} {x y w : PV} (hs : s ≤ 63) (hn : n < 2 ^ s) (hp : p < 2 ^ 62) (hc : c < 256) (hB : s < B):
    run (p_leb_window_signed_1110000111 (.int .i64 B) (.ptr id 0) x y w (.int .i64 (IntKind.i64.wrap n)) (.int .i64 s) (.int .i64 p) (.int .u8 c)) H =
      if c < 128 then some (.ok (retS (.ok (IntKind.i64.wrap (n + lastS c s)) (p + 1))) H)
      else run (p_leb_window_signed_1110 (.int .i64 B) (.ptr id 0) x y w (.int .i64 (IntKind.i64.wrap (n + c % 128 * 2 ^ s : Nat))) (.int .i64 (s + 7 : Nat)) (.int .i64 (p + 1 : Nat))) H := by
  rw [p_leb_window_signed_1110000111_eq]
  have e1 : shiftN .i64 (s : Int) = s := shiftN_i64 (by omega)
  have key : IntKind.i64.wrap ((BitVec.ofInt IntKind.i64.bits (IntKind.i64.wrap n) ||| BitVec.ofInt IntKind.i64.bits (IntKind.i64.wrap (((c % 128 : Nat) : Int) * 2 ^ shiftN .i64 (s : Int)))).toNat : Int) = IntKind.i64.wrap ((n + c % 128 * 2 ^ s : Nat) : Int) := by
    rw [e1]
    have h := or_digit (N := (n : Int)) (x := ((c % 128 : Nat) : Int)) hs (by omega) (by exact_mod_cast hn)
    unfold or64 at h
    refine h.trans ?_
    push_cast
    rfl
  have w1 : IntKind.i64.wrap ((c % 128 : Nat) : Int) = ((c % 128 : Nat) : Int) := w_i64 (by omega)
  simp (contextual := true) (dsimp := false) (disch := omega) only [↓goDown, goUp, List.length_cons, List.length_nil, List.map_cons, List.map_nil, List.take_succ_cons, List.take_zero, List.drop_succ_cons, List.drop_zero, List.drop_nil, List.take_nil, List.cons_append, List.nil_append, List.append_nil, List.set_cons_zero, List.set_cons_succ, List.all_cons, List.all_nil, ↓reduceIte, reduceCtorEq, ge_iff_le, gt_iff_lt, eq_self_iff_true, beq_self_eq_true, beq_iff_eq, bne_iff_ne, ne_eq, ite_not, Int.reduceEq, Option.getD_some, Option.getD_none, ite_self, Nat.reduceAdd, Nat.reduceSub, Nat.reduceMul, Nat.reduceLeDiff, Nat.reduceEqDiff, Nat.reduceBEq, Nat.reduceBNe, Int.reduceLT, Int.reduceLE, Int.reduceAdd, Int.reduceSub, Int.reduceMul, Int.reduceNeg, Int.reduceNe, Int.reduceBEq, Int.reduceBNe, Int.reduceToNat, run_and, and127, run_shl, run_shr, run_or, p_leb_window_signed_111000011111101_eq, key, w1]
  have e2 : ((s : Int) + 7) = ((s + 7 : Nat) : Int) := rfl
  have e3 : ((p : Int) + 1) = ((p + 1 : Nat) : Int) := rfl
  by_cases hlt : c < 128
  · have c1 : (c : Int) < 128 := by omega
    have hm : c % 128 = c := Nat.mod_eq_of_lt hlt
    rw [if_pos c1, if_pos hlt, and64 c hlt, hm]
    by_cases h64 : c < 64
    · rw [if_pos h64, if_pos rfl]
      unfold lastS
      rw [if_pos h64]
      push_cast
      rfl
    · rw [if_neg h64, if_neg (by decide)]
      unfold lastS
      rw [if_neg h64]
      have ep : (2 : Int) ^ (s + 7) = 128 * 2 ^ s := by rw [Int.pow_add, Int.mul_comm]; rfl
      by_cases h7 : s + 7 < 64
      · have c2 : (s : Int) + 7 < 64 := by omega
        rw [if_pos c2, e2, shiftN_i64 (by omega)]
        have h1 : n + c * 2 ^ s < 2 ^ (s + 7) := by
          have : (c + 1) * 2 ^ s ≤ 128 * 2 ^ s := Nat.mul_le_mul_right _ (by omega)
          have e : 2 ^ (s + 7) = 128 * 2 ^ s := by rw [Nat.pow_add, Nat.mul_comm]
          rw [Nat.add_mul] at this
          omega
        have h := or_digit (N := ((n + c * 2 ^ s : Nat) : Int)) (x := -1) (s := s + 7) (by omega) (by omega) (by exact_mod_cast h1)
        unfold or64 at h
        have h2 : IntKind.i64.wrap (((n + c * 2 ^ s : Nat) : Int) + -1 * 2 ^ (s + 7)) = IntKind.i64.wrap ((n : Int) + ((c : Int) - 128) * 2 ^ s) := by
          congr 1
          rw [ep, Int.sub_mul]
          push_cast
          omega
        exact congrArg (fun v => some (Out.ok (PV.tup [PV.int IntKind.i64 v, PV.int IntKind.i64 ((p : Int) + 1), PV.int IntKind.i64 0]) H)) (h.trans h2)
      · have c2 : ¬ (s : Int) + 7 < 64 := by omega
        rw [if_neg c2]
        have h2 : IntKind.i64.wrap ((n + c * 2 ^ s : Nat) : Int) = IntKind.i64.wrap ((n : Int) + ((c : Int) - 128) * 2 ^ s) := by
          apply wi_congr
          have e9 : (128 : Int) * 2 ^ s = 2 ^ (s + 7 - 64) * 18446744073709551616 := by
            rw [← ep, pow64 (s := 64) (by omega), Nat.sub_self, Int.pow_zero, Int.one_mul, ← Int.pow_add]
            congr 1
            omega
          have e8 : ((n + c * 2 ^ s : Nat) : Int) = ((n : Int) + ((c : Int) - 128) * 2 ^ s) + 2 ^ (s + 7 - 64) * 18446744073709551616 := by
            rw [← e9, Int.sub_mul]
            push_cast
            omega
          rw [e8, Int.add_mul_emod_self_right]
        exact congrArg (fun v => some (Out.ok (PV.tup [PV.int IntKind.i64 v, PV.int IntKind.i64 ((p : Int) + 1), PV.int IntKind.i64 0]) H)) h2
  · have c1 : ¬ (c : Int) < 128 := by omega
    rw [if_neg c1, if_neg hlt, e2, e3]
theorem sgn_round {H : Heap} {b : List UInt8} {z : Bool} {id a e B s n p : Nat} {x y w : PV} (hH : hget H id = some (.cells [BS z b, .int .i64 a, .int .i64 e]))
    (he : e ≤ b.length) (hb : b.length < 2 ^ 62) (hB : B = 32 ∨ B = 33 ∨ B = 64) (hs7 : s % 7 = 0) (hi : s < B) (hn : n < 2 ^ s) :
    run (p_leb_window_signed_1110 (.int .i64 B) (.ptr id 0) x y w (.int .i64 (IntKind.i64.wrap n)) (.int .i64 s) (.int .i64 p)) H =
      if p < e then
        if B < s + 7 ∧ ¬ okS (B - s) (b.getD p 0).toNat then some (.ok (retS (.err p 4)) H)
        else if (b.getD p 0).toNat < 128 then some (.ok (retS (.ok (IntKind.i64.wrap (n + lastS (b.getD p 0).toNat s)) (p + 1))) H)
        else run (p_leb_window_signed_1110 (.int .i64 B) (.ptr id 0) x y w (.int .i64 (IntKind.i64.wrap (n + (b.getD p 0).toNat % 128 * 2 ^ s : Nat))) (.int .i64 (s + 7 : Nat)) (.int .i64 (p + 1 : Nat))) H
      else some (.ok (retS (.err e 3)) H) := by
  have hid := get_lt hH
  have hset := set_self hH
  rw [p_leb_window_signed_1110_eq]
  by_cases hpe : p < e
  · have hpb : p < b.length := by omega
    have hg := byt_get hpb
    have hgd : b.getD p 0 = b[p] := by simp [hpb]
    rw [hgd]
    generalize b[p] = c at hg hgd ⊢
    have hc := byt_lt c
    generalize hcn : c.toNat = cn at hc
    have s1 : (B : Int) - (s : Int) = ((B - s : Nat) : Int) := by omega
    have c0 : ¬ (e : Int) ≤ p := by omega
    have hj := fun (u v w : PV) => sgn_join (H := H) (b := b) (id := id) (B := B) (s := s) (n := n) (p := p) (c := cn) (x := u) (y := v) (w := w) (by omega) hn (by omega) hc hi
    simp (contextual := true) (dsimp := false) (disch := omega) only [↓goDown, goUp, List.length_cons, List.length_nil, List.map_cons, List.map_nil, List.take_succ_cons, List.take_zero, List.drop_succ_cons, List.drop_zero, List.drop_nil, List.take_nil, List.cons_append, List.nil_append, List.append_nil, List.set_cons_zero, List.set_cons_succ, List.all_cons, List.all_nil, ↓reduceIte, reduceCtorEq, ge_iff_le, gt_iff_lt, eq_self_iff_true, beq_self_eq_true, beq_iff_eq, bne_iff_ne, ne_eq, ite_not, Int.reduceEq, Option.getD_some, Option.getD_none, ite_self, Nat.reduceAdd, Nat.reduceSub, Nat.reduceMul, Nat.reduceLeDiff, Nat.reduceEqDiff, Nat.reduceBEq, Nat.reduceBNe, Int.reduceLT, Int.reduceLE, Int.reduceAdd, Int.reduceSub, Int.reduceMul, Int.reduceNeg, Int.reduceNe, Int.reduceBEq, Int.reduceBNe, Int.reduceToNat, hH, hg, byt, hcn, hset, s1, run_and, run_shl, run_shr, run_or, Int.toNat_natCast, hj, c0]
    rw [if_pos hpe]
    by_cases h7 : B - s < 7
    · have c1 : ((B - s : Nat) : Int) < 7 := by omega
      have c3 : B < s + 7 := by omega
      rw [if_pos c1]
      by_cases h128 : cn < 128
      · have c2 : ¬ (128 : Int) ≤ cn := by omega
        have ht := top_ok (h := B - s) (by omega) h128
        rw [if_neg c2]
        by_cases h0 : (IntKind.i8.wrap (IntKind.u8.wrap ((cn : Int) * 2 ^ shiftN .u8 1))).fdiv (2 ^ shiftN .i8 ((B - s : Nat) : Int)) = 0
        · have c4 : ¬ (B < s + 7 ∧ ¬ okS (B - s) cn) := fun h => h.2 (ht.mp (.inl h0))
          rw [if_pos h0, if_neg c4, if_pos h128, if_pos h128]
        · rw [if_neg h0]
          by_cases h1 : (IntKind.i8.wrap (IntKind.u8.wrap ((cn : Int) * 2 ^ shiftN .u8 1))).fdiv (2 ^ shiftN .i8 ((B - s : Nat) : Int)) = -1
          · have c4 : ¬ (B < s + 7 ∧ ¬ okS (B - s) cn) := fun h => h.2 (ht.mp (.inr h1))
            rw [if_pos h1, if_neg c4, if_pos h128, if_pos h128]
          · have c4 : B < s + 7 ∧ ¬ okS (B - s) cn := ⟨c3, fun h => (ht.mpr h).elim h0 h1⟩
            rw [if_neg h1, if_pos c4]
            rfl
      · have c2 : (128 : Int) ≤ cn := by omega
        have c4 : B < s + 7 ∧ ¬ okS (B - s) cn := ⟨c3, fun h => h128 h.1⟩
        rw [if_pos c2, if_pos c4]
        rfl
    · have c1 : ¬ ((B - s : Nat) : Int) < 7 := by omega
      have c4 : ¬ (B < s + 7 ∧ ¬ okS (B - s) cn) := by omega
      rw [if_neg c1, if_neg c4]
  · have c0 : (e : Int) ≤ p := by omega
    simp (contextual := true) (dsimp := false) (disch := omega) only [↓goDown, goUp, List.length_cons, List.length_nil, List.map_cons, List.map_nil, List.take_succ_cons, List.take_zero, List.drop_succ_cons, List.drop_zero, List.drop_nil, List.take_nil, List.cons_append, List.nil_append, List.append_nil, List.set_cons_zero, List.set_cons_succ, List.all_cons, List.all_nil, ↓reduceIte, reduceCtorEq, ge_iff_le, gt_iff_lt, eq_self_iff_true, beq_self_eq_true, beq_iff_eq, bne_iff_ne, ne_eq, ite_not, Int.reduceEq, Option.getD_some, Option.getD_none, ite_self, Nat.reduceAdd, Nat.reduceSub, Nat.reduceMul, Nat.reduceLeDiff, Nat.reduceEqDiff, Nat.reduceBEq, Nat.reduceBNe, Int.reduceLT, Int.reduceLE, Int.reduceAdd, Int.reduceSub, Int.reduceMul, Int.reduceNeg, Int.reduceNe, Int.reduceBEq, Int.reduceBNe, Int.reduceToNat, hH, hset, c0]
    rw [if_neg hpe]
    rfl
theorem sgn_loop {H : Heap} {b : List UInt8} {z : Bool} {id a e B : Nat} {x y w : PV} (hH : hget H id = some (.cells [BS z b, .int .i64 a, .int .i64 e]))
    (he : e ≤ b.length) (hb : b.length < 2 ^ 62) (hB : B = 32 ∨ B = 33 ∨ B = 64) : ∀ (f i n p : Nat), 7 * i < B → B ≤ 7 * (i + f) → n < 2 ^ (7 * i) →
    run (p_leb_window_signed_1110 (.int .i64 B) (.ptr id 0) x y w (.int .i64 (IntKind.i64.wrap n)) (.int .i64 (7 * i : Nat)) (.int .i64 p)) H = some (.ok (retS (lebS b B e f i n p)) H)
  | 0, i, n, p, hi, hf, hn => by omega
  | f + 1, i, n, p, hi, hf, hn => by
    rw [sgn_round hH he hb hB (by omega) hi hn]
    unfold lebS
    by_cases h1 : p < e
    · simp only [if_pos h1]
      by_cases h2 : B < 7 * i + 7 ∧ ¬ okS (B - 7 * i) (b.getD p 0).toNat
      · simp only [if_pos h2]
      · simp only [if_neg h2]
        by_cases h3 : (b.getD p 0).toNat < 128
        · simp only [if_pos h3]
        · simp only [if_neg h3]
          have h7 : ¬ B < 7 * i + 7 := fun h => h2 ⟨h, fun h0 => h3 h0.1⟩
          refine sgn_loop hH he hb hB f (i + 1) _ (p + 1) (by omega) (by omega) ?_
          have h4 : 2 ^ (7 * (i + 1)) = 128 * 2 ^ (7 * i) := by rw [Nat.mul_add, Nat.pow_add, Nat.mul_comm]
          have h5 : (b.getD p 0).toNat % 128 * 2 ^ (7 * i) ≤ 127 * 2 ^ (7 * i) := Nat.mul_le_mul_right _ (by omega)
          omega
    · simp only [if_neg h1]
theorem leb_signed_is {H : Heap} {b : List UInt8} {z : Bool} {p e B : Nat} (he : e ≤ b.length) (hb : b.length < 2 ^ 62) (hB : B = 32 ∨ B = 33 ∨ B = 64) :
    run (C k_leb_window_signed [.agg [BS z b, .int .i64 p, .int .i64 e], .int .i64 B]) H = some (.ok (retS (rdS b B e p)) H) := by
  rw [leb_window_signed_eq]
  have h : ∀ (x y w : PV), run (p_leb_window_signed_1110 (.int .i64 B) (.ptr H.length 0) x y w (.int .i64 0) (.int .i64 0) (.int .i64 p)) (hadd H [.cells [BS z b, .int .i64 p, .int .i64 e]]) = some (.ok (retS (rdS b B e p)) (hadd H [.cells [BS z b, .int .i64 p, .int .i64 e]])) :=
    fun x y w => sgn_loop (by rw [get_loc0]; rfl) he hb hB 10 0 0 p (by omega) (by omega) (by decide)
  have hl : ∀ n, (retS (rdS b B e p)).low n = true := by intro n; unfold retS; split <;> simp [lowL_cons, lowL_nil, low_tup, low_int]
  simp (contextual := true) (dsimp := false) (disch := omega) only [↓goDown, goUp, List.length_cons, List.length_nil, List.map_cons, List.map_nil, List.take_succ_cons, List.take_zero, List.drop_succ_cons, List.drop_zero, List.drop_nil, List.take_nil, List.cons_append, List.nil_append, List.append_nil, List.set_cons_zero, List.set_cons_succ, List.all_cons, List.all_nil, ↓reduceIte, reduceCtorEq, ge_iff_le, gt_iff_lt, eq_self_iff_true, beq_self_eq_true, beq_iff_eq, bne_iff_ne, ne_eq, ite_not, Int.reduceEq, Option.getD_some, Option.getD_none, ite_self, Nat.reduceAdd, Nat.reduceSub, Nat.reduceMul, Nat.reduceLeDiff, Nat.reduceEqDiff, Nat.reduceBEq, Nat.reduceBNe, Int.reduceLT, Int.reduceLE, Int.reduceAdd, Int.reduceSub, Int.reduceMul, Int.reduceNeg, Int.reduceNe, Int.reduceBEq, Int.reduceBNe, Int.reduceToNat, h, hl]
end Go.Proofs.Ytofbbijagbpicaa.Pi.Q
namespace Go.Proofs.Ytofbbijagbpicaa.Pi.Q
open Go Go.Proofs.Ytofbbijagbpicaa.Pi
set_option linter.unusedVariables false
set_option linter.unusedSimpArgs false
set_option maxRecDepth 100000
attribute [local congr] ite_congr
theorem wu (x : Int) : IntKind.u64.wrap x = x % 18446744073709551616 := by simp only [IntKind.wrap, IntKind.signed, IntKind.bits]; simp
end Go.Proofs.Ytofbbijagbpicaa.Pi.Q
namespace Go.Proofs.Ytofbbijagbpicaa.Pi.Q
open Go Go.Proofs.Ytofbbijagbpicaa.Pi
set_option linter.unusedVariables false
set_option linter.unusedSimpArgs false
set_option maxRecDepth 100000
attribute [local congr] ite_congr
theorem lebU_lt {b : List UInt8} {B e : Nat} (hB : B % 7 ≠ 0) : ∀ (f i n p : Nat), 7 * i < B → n < 2 ^ (7 * i) → ∀ v q, lebU b B e f i n p = .ok v q → v < 2 ^ B ∧ p < q ∧ q ≤ e
  | 0, i, n, p, hi, hn, v, q, h => by cases h
  | f + 1, i, n, p, hi, hn, v, q, h => by
    unfold lebU at h
    by_cases h1 : p < e
    · simp only [if_pos h1] at h
      by_cases h2 : B < 7 * i + 7 ∧ (b.getD p 0).toNat / 2 ^ (B - 7 * i) ≠ 0
      · simp only [if_pos h2] at h; cases h
      · simp only [if_neg h2] at h
        generalize hc : (b.getD p 0).toNat = c at *
        have hz : ∀ k : Nat, 0 < 2 ^ k := fun k => Nat.pow_pos (by omega)
        have h7 : B < 7 * i + 7 → c < 2 ^ (B - 7 * i) := by
          intro h
          have h0 : c / 2 ^ (B - 7 * i) = 0 := by
            by_cases h0 : c / 2 ^ (B - 7 * i) = 0
            · exact h0
            · exact absurd ⟨h, h0⟩ h2
          rcases Nat.div_eq_zero_iff.mp h0 with h | h
          · have := hz (B - 7 * i); omega
          · exact h
        by_cases h3 : c < 128
        · simp only [if_pos h3, Rs.ok.injEq] at h
          obtain ⟨rfl, rfl⟩ := h
          have hlt : c < 2 ^ (B - 7 * i) := by
            by_cases h : B < 7 * i + 7
            · exact h7 h
            · have : 2 ^ 7 ≤ 2 ^ (B - 7 * i) := Nat.pow_le_pow_right (by omega) (by omega)
              omega
          refine ⟨?_, by omega, by omega⟩
          have h4 : (c + 1) * 2 ^ (7 * i) ≤ 2 ^ (B - 7 * i) * 2 ^ (7 * i) := Nat.mul_le_mul_right _ hlt
          have h5 : 2 ^ (B - 7 * i) * 2 ^ (7 * i) = 2 ^ B := by rw [← Nat.pow_add, Nat.sub_add_cancel (by omega)]
          rw [Nat.add_mul] at h4
          omega
        · simp only [if_neg h3] at h
          have h8 : ¬ B < 7 * i + 7 := by
            intro h
            have h5 := h7 h
            have : 2 ^ (B - 7 * i) ≤ 2 ^ 6 := Nat.pow_le_pow_right (by omega) (by omega)
            omega
          have h4 : 2 ^ (7 * (i + 1)) = 128 * 2 ^ (7 * i) := by rw [Nat.mul_add, Nat.pow_add, Nat.mul_comm]
          have h5 : c % 128 * 2 ^ (7 * i) ≤ 127 * 2 ^ (7 * i) := Nat.mul_le_mul_right _ (by omega)
          obtain ⟨a1, a2, a3⟩ := lebU_lt hB f (i + 1) _ (p + 1) (by omega) (by omega) v q h
          exact ⟨a1, by omega, a3⟩
    · simp only [if_neg h1] at h; cases h
theorem lebS_lt {b : List UInt8} {B e : Nat} : ∀ (f i n p : Nat) v q, lebS b B e f i n p = .ok v q → -9223372036854775808 ≤ v ∧ v ≤ 9223372036854775807 ∧ p < q ∧ q ≤ e
  | 0, i, n, p, v, q, h => by cases h
  | f + 1, i, n, p, v, q, h => by
    unfold lebS at h
    by_cases h1 : p < e
    · simp only [if_pos h1] at h
      by_cases h2 : B < 7 * i + 7 ∧ ¬ okS (B - 7 * i) (b.getD p 0).toNat
      · simp only [if_pos h2] at h; cases h
      · simp only [if_neg h2] at h
        by_cases h3 : (b.getD p 0).toNat < 128
        · simp only [if_pos h3, Rs.ok.injEq] at h
          obtain ⟨rfl, rfl⟩ := h
          rw [wi]
          omega
        · simp only [if_neg h3] at h
          obtain ⟨a1, a2, a3, a4⟩ := lebS_lt f (i + 1) _ (p + 1) v q h
          exact ⟨a1, a2, by omega, a4⟩
    · simp only [if_neg h1] at h; cases h
theorem rdU32_lt {b : List UInt8} {e p v q : Nat} (h : rdU b 32 e p = .ok v q) : v < 2 ^ 32 ∧ p < q ∧ q ≤ e := lebU_lt (by decide) 10 0 0 p (by omega) (by decide) v q h
theorem rdS_lt {b : List UInt8} {B e p q : Nat} {v : Int} (h : rdS b B e p = .ok v q) : -9223372036854775808 ≤ v ∧ v ≤ 9223372036854775807 ∧ p < q ∧ q ≤ e := lebS_lt 10 0 0 p v q h
def retK (k : IntKind) : Rs Nat → PV
  | .ok n p => .tup [.int k n, .int .i64 p, .int .i64 0]
  | .err p e => .tup [.int k 0, .int .i64 p, .int .i64 e]
theorem leb_u32_is {H : Heap} {b : List UInt8} {z : Bool} {p e : Nat} (he : e ≤ b.length) (hb : b.length < 2 ^ 61) :
    run (C k_leb_u32 [.agg [BS z b, .int .i64 p, .int .i64 e]]) H = some (.ok (retU (rdU b 32 e p)) H) := by
  rw [leb_u32_eq]
  have h := leb_unsigned_is (H := hadd H [.cells [BS z b, .int .i64 p, .int .i64 e]]) (z := z) (p := p) (B := 32) he (by omega) (.inl rfl)
  have h : run (C k_leb_window_unsigned [.agg [BS z b, .int .i64 p, .int .i64 e], .int .i64 32]) (hadd H [.cells [BS z b, .int .i64 p, .int .i64 e]]) = _ := h
  cases hr : rdU b 32 e p <;> rw [hr] at h <;> simp only [retU] at h ⊢ <;>
    simp (contextual := true) (dsimp := false) (disch := omega) only [↓goDown, goUp, List.length_cons, List.length_nil, List.map_cons, List.map_nil, List.take_succ_cons, List.take_zero, List.drop_succ_cons, List.drop_zero, List.drop_nil, List.take_nil, List.cons_append, List.nil_append, List.append_nil, List.set_cons_zero, List.set_cons_succ, List.all_cons, List.all_nil, ↓reduceIte, reduceCtorEq, ge_iff_le, gt_iff_lt, eq_self_iff_true, beq_self_eq_true, beq_iff_eq, bne_iff_ne, ne_eq, ite_not, Int.reduceEq, Option.getD_some, Option.getD_none, ite_self, Nat.reduceAdd, Nat.reduceSub, Nat.reduceMul, Nat.reduceLeDiff, Nat.reduceEqDiff, Nat.reduceBEq, Nat.reduceBNe, Int.reduceLT, Int.reduceLE, Int.reduceAdd, Int.reduceSub, Int.reduceMul, Int.reduceNeg, Int.reduceNe, Int.reduceBEq, Int.reduceBNe, Int.reduceToNat, h]
theorem leb_s33_is {H : Heap} {b : List UInt8} {z : Bool} {p e : Nat} (he : e ≤ b.length) (hb : b.length < 2 ^ 61) :
    run (C k_leb_s33 [.agg [BS z b, .int .i64 p, .int .i64 e]]) H = some (.ok (retS (rdS b 33 e p)) H) := by
  rw [leb_s33_eq]
  have h := leb_signed_is (H := hadd H [.cells [BS z b, .int .i64 p, .int .i64 e]]) (z := z) (p := p) (B := 33) he (by omega) (.inr (.inl rfl))
  have h : run (C k_leb_window_signed [.agg [BS z b, .int .i64 p, .int .i64 e], .int .i64 33]) (hadd H [.cells [BS z b, .int .i64 p, .int .i64 e]]) = _ := h
  cases hr : rdS b 33 e p <;> rw [hr] at h <;> simp only [retS] at h ⊢ <;>
    simp (contextual := true) (dsimp := false) (disch := omega) only [↓goDown, goUp, List.length_cons, List.length_nil, List.map_cons, List.map_nil, List.take_succ_cons, List.take_zero, List.drop_succ_cons, List.drop_zero, List.drop_nil, List.take_nil, List.cons_append, List.nil_append, List.append_nil, List.set_cons_zero, List.set_cons_succ, List.all_cons, List.all_nil, ↓reduceIte, reduceCtorEq, ge_iff_le, gt_iff_lt, eq_self_iff_true, beq_self_eq_true, beq_iff_eq, bne_iff_ne, ne_eq, ite_not, Int.reduceEq, Option.getD_some, Option.getD_none, ite_self, Nat.reduceAdd, Nat.reduceSub, Nat.reduceMul, Nat.reduceLeDiff, Nat.reduceEqDiff, Nat.reduceBEq, Nat.reduceBNe, Int.reduceLT, Int.reduceLE, Int.reduceAdd, Int.reduceSub, Int.reduceMul, Int.reduceNeg, Int.reduceNe, Int.reduceBEq, Int.reduceBNe, Int.reduceToNat, h]
theorem opened_in {H : Heap} {b : List UInt8} {z : Bool} {p e : Nat} (he : e ≤ b.length) (hp : p ≤ e) :
    run (C k_leb_opened [BS z b, .int .i64 p, .int .i64 e]) H = some (.ok (.tup [.agg [BS z b, .int .i64 p, .int .i64 e], .int .i64 0]) H) := by
  rw [leb_opened_is, if_neg (by omega)]
theorem leb_U32_is {H : Heap} {b : List UInt8} {z : Bool} {p e : Nat} (he : e ≤ b.length) (hb : b.length < 2 ^ 61) (hp : p ≤ e) :
    run (C k_leb_U32 [BS z b, .int .i64 p, .int .i64 e]) H = some (.ok (retK .u32 (rdU b 32 e p)) H) := by
  have h1 : run (C k_leb_number_uint32_uint64 [BS z b, .int .i64 p, .int .i64 e, .fn k_leb_u32 [] []]) H = some (.ok (retK .u32 (rdU b 32 e p)) H) := by
    rw [leb_number_uint32_uint64_eq]
    have h := leb_u32_is (H := hadd H [.cells [BS z b, .int .i64 p, .int .i64 e]]) (z := z) (p := p) he hb
    cases hr : rdU b 32 e p with
    | ok v q =>
      have hv := rdU32_lt hr
      rw [hr] at h
      simp only [retU, retK] at h ⊢
      simp (contextual := true) (dsimp := false) (disch := omega) only [↓goDown, goUp, List.length_cons, List.length_nil, List.map_cons, List.map_nil, List.take_succ_cons, List.take_zero, List.drop_succ_cons, List.drop_zero, List.drop_nil, List.take_nil, List.cons_append, List.nil_append, List.append_nil, List.set_cons_zero, List.set_cons_succ, List.all_cons, List.all_nil, ↓reduceIte, reduceCtorEq, ge_iff_le, gt_iff_lt, eq_self_iff_true, beq_self_eq_true, beq_iff_eq, bne_iff_ne, ne_eq, ite_not, Int.reduceEq, Option.getD_some, Option.getD_none, ite_self, Nat.reduceAdd, Nat.reduceSub, Nat.reduceMul, Nat.reduceLeDiff, Nat.reduceEqDiff, Nat.reduceBEq, Nat.reduceBNe, Int.reduceLT, Int.reduceLE, Int.reduceAdd, Int.reduceSub, Int.reduceMul, Int.reduceNeg, Int.reduceNe, Int.reduceBEq, Int.reduceBNe, Int.reduceToNat, h, opened_in he hp]
    | err a w =>
      rw [hr] at h
      simp only [retU, retK] at h ⊢
      simp (contextual := true) (dsimp := false) (disch := omega) only [↓goDown, goUp, List.length_cons, List.length_nil, List.map_cons, List.map_nil, List.take_succ_cons, List.take_zero, List.drop_succ_cons, List.drop_zero, List.drop_nil, List.take_nil, List.cons_append, List.nil_append, List.append_nil, List.set_cons_zero, List.set_cons_succ, List.all_cons, List.all_nil, ↓reduceIte, reduceCtorEq, ge_iff_le, gt_iff_lt, eq_self_iff_true, beq_self_eq_true, beq_iff_eq, bne_iff_ne, ne_eq, ite_not, Int.reduceEq, Option.getD_some, Option.getD_none, ite_self, Nat.reduceAdd, Nat.reduceSub, Nat.reduceMul, Nat.reduceLeDiff, Nat.reduceEqDiff, Nat.reduceBEq, Nat.reduceBNe, Int.reduceLT, Int.reduceLE, Int.reduceAdd, Int.reduceSub, Int.reduceMul, Int.reduceNeg, Int.reduceNe, Int.reduceBEq, Int.reduceBNe, Int.reduceToNat, h, opened_in he hp]
  rw [leb_U32_eq]
  cases hr : rdU b 32 e p <;> rw [hr] at h1 <;> simp only [retK] at h1 ⊢ <;>
    simp (contextual := true) (dsimp := false) (disch := omega) only [↓goDown, goUp, List.length_cons, List.length_nil, List.map_cons, List.map_nil, List.take_succ_cons, List.take_zero, List.drop_succ_cons, List.drop_zero, List.drop_nil, List.take_nil, List.cons_append, List.nil_append, List.append_nil, List.set_cons_zero, List.set_cons_succ, List.all_cons, List.all_nil, ↓reduceIte, reduceCtorEq, ge_iff_le, gt_iff_lt, eq_self_iff_true, beq_self_eq_true, beq_iff_eq, bne_iff_ne, ne_eq, ite_not, Int.reduceEq, Option.getD_some, Option.getD_none, ite_self, Nat.reduceAdd, Nat.reduceSub, Nat.reduceMul, Nat.reduceLeDiff, Nat.reduceEqDiff, Nat.reduceBEq, Nat.reduceBNe, Int.reduceLT, Int.reduceLE, Int.reduceAdd, Int.reduceSub, Int.reduceMul, Int.reduceNeg, Int.reduceNe, Int.reduceBEq, Int.reduceBNe, Int.reduceToNat, h1]
theorem leb_S33_is {H : Heap} {b : List UInt8} {z : Bool} {p e : Nat} (he : e ≤ b.length) (hb : b.length < 2 ^ 61) (hp : p ≤ e) :
    run (C k_leb_S33 [BS z b, .int .i64 p, .int .i64 e]) H = some (.ok (retS (rdS b 33 e p)) H) := by
  have h1 : run (C k_leb_number_int64_int64 [BS z b, .int .i64 p, .int .i64 e, .fn k_leb_s33 [] []]) H = some (.ok (retS (rdS b 33 e p)) H) := by
    rw [leb_number_int64_int64_eq]
    have h := leb_s33_is (H := hadd H [.cells [BS z b, .int .i64 p, .int .i64 e]]) (z := z) (p := p) he hb
    cases hr : rdS b 33 e p <;> rw [hr] at h <;> simp only [retS] at h ⊢ <;>
      simp (contextual := true) (dsimp := false) (disch := omega) only [↓goDown, goUp, List.length_cons, List.length_nil, List.map_cons, List.map_nil, List.take_succ_cons, List.take_zero, List.drop_succ_cons, List.drop_zero, List.drop_nil, List.take_nil, List.cons_append, List.nil_append, List.append_nil, List.set_cons_zero, List.set_cons_succ, List.all_cons, List.all_nil, ↓reduceIte, reduceCtorEq, ge_iff_le, gt_iff_lt, eq_self_iff_true, beq_self_eq_true, beq_iff_eq, bne_iff_ne, ne_eq, ite_not, Int.reduceEq, Option.getD_some, Option.getD_none, ite_self, Nat.reduceAdd, Nat.reduceSub, Nat.reduceMul, Nat.reduceLeDiff, Nat.reduceEqDiff, Nat.reduceBEq, Nat.reduceBNe, Int.reduceLT, Int.reduceLE, Int.reduceAdd, Int.reduceSub, Int.reduceMul, Int.reduceNeg, Int.reduceNe, Int.reduceBEq, Int.reduceBNe, Int.reduceToNat, h, opened_in he hp]
  rw [leb_S33_eq]
  cases hr : rdS b 33 e p <;> rw [hr] at h1 <;> simp only [retS] at h1 ⊢ <;>
    simp (contextual := true) (dsimp := false) (disch := omega) only [↓goDown, goUp, List.length_cons, List.length_nil, List.map_cons, List.map_nil, List.take_succ_cons, List.take_zero, List.drop_succ_cons, List.drop_zero, List.drop_nil, List.take_nil, List.cons_append, List.nil_append, List.append_nil, List.set_cons_zero, List.set_cons_succ, List.all_cons, List.all_nil, ↓reduceIte, reduceCtorEq, ge_iff_le, gt_iff_lt, eq_self_iff_true, beq_self_eq_true, beq_iff_eq, bne_iff_ne, ne_eq, ite_not, Int.reduceEq, Option.getD_some, Option.getD_none, ite_self, Nat.reduceAdd, Nat.reduceSub, Nat.reduceMul, Nat.reduceLeDiff, Nat.reduceEqDiff, Nat.reduceBEq, Nat.reduceBNe, Int.reduceLT, Int.reduceLE, Int.reduceAdd, Int.reduceSub, Int.reduceMul, Int.reduceNeg, Int.reduceNe, Int.reduceBEq, Int.reduceBNe, Int.reduceToNat, h1]
def curB (z : Bool) (b : List UInt8) (p : Nat) : Box := .cells [BS z b, .int .i64 p]
def flt (p e : Nat) : PV := .iface y_entry_fault (.agg [.int .i64 p, .int .i64 e])
def outC (z : Bool) (b : List UInt8) (c : Nat) (H : Heap) (q : Nat) {α : Type} (enc : α → PV) : Rs α → Option (Out PV)
  | .ok v p => some (.ok (enc v) (hset H c (curB z b p)))
  | .err p e => some (.pan (flt p e) (hset H c (curB z b q)))
theorem fail_is {H : Heap} {r : PV} {p e : Int} : run (C k_entry_cursor_fail [r, .int .i64 p, .int .i64 e]) H = some (.pan (.iface y_entry_fault (.agg [.int .i64 p, .int .i64 e])) H) := by
  rw [entry_cursor_fail_eq]
  simp (contextual := true) (dsimp := false) (disch := omega) only [↓goDown, goUp, List.length_cons, List.length_nil, List.map_cons, List.map_nil, List.take_succ_cons, List.take_zero, List.drop_succ_cons, List.drop_zero, List.drop_nil, List.take_nil, List.cons_append, List.nil_append, List.append_nil, List.set_cons_zero, List.set_cons_succ, List.all_cons, List.all_nil, ↓reduceIte, reduceCtorEq, ge_iff_le, gt_iff_lt, eq_self_iff_true, beq_self_eq_true, beq_iff_eq, bne_iff_ne, ne_eq, ite_not, Int.reduceEq, Option.getD_some, Option.getD_none, ite_self, Nat.reduceAdd, Nat.reduceSub, Nat.reduceMul, Nat.reduceLeDiff, Nat.reduceEqDiff, Nat.reduceBEq, Nat.reduceBNe, Int.reduceLT, Int.reduceLE, Int.reduceAdd, Int.reduceSub, Int.reduceMul, Int.reduceNeg, Int.reduceNe, Int.reduceBEq, Int.reduceBNe, Int.reduceToNat]
def rLook (b : List UInt8) (p : Nat) : Rs Nat := if p < b.length then .ok (b.getD p 0).toNat p else .err b.length 3
theorem look_is {H : Heap} {b : List UInt8} {z : Bool} {c p : Nat} (hH : hget H c = some (curB z b p)) (hb : b.length < 2 ^ 61) :
    run (C k_entry_cursor_look [.ptr c 0]) H = outC z b c H p (fun x : Nat => .int .u8 x) (rLook b p) := by
  have hid := get_lt hH
  have hset := set_self hH
  rw [entry_cursor_look_eq]
  unfold rLook
  have hH' := hH
  unfold curB at hH
  by_cases hp : p < b.length
  · have hg := byt_get hp
    have hgd : b.getD p 0 = b[p] := by simp [hp]
    have c0 : ¬ (b.length : Int) ≤ p := by omega
    rw [if_pos hp, hgd]
    simp only [outC, hset]
    simp (contextual := true) (dsimp := false) (disch := omega) only [↓goDown, goUp, List.length_cons, List.length_nil, List.map_cons, List.map_nil, List.take_succ_cons, List.take_zero, List.drop_succ_cons, List.drop_zero, List.drop_nil, List.take_nil, List.cons_append, List.nil_append, List.append_nil, List.set_cons_zero, List.set_cons_succ, List.all_cons, List.all_nil, ↓reduceIte, reduceCtorEq, ge_iff_le, gt_iff_lt, eq_self_iff_true, beq_self_eq_true, beq_iff_eq, bne_iff_ne, ne_eq, ite_not, Int.reduceEq, Option.getD_some, Option.getD_none, ite_self, Nat.reduceAdd, Nat.reduceSub, Nat.reduceMul, Nat.reduceLeDiff, Nat.reduceEqDiff, Nat.reduceBEq, Nat.reduceBNe, Int.reduceLT, Int.reduceLE, Int.reduceAdd, Int.reduceSub, Int.reduceMul, Int.reduceNeg, Int.reduceNe, Int.reduceBEq, Int.reduceBNe, Int.reduceToNat, hH, hg, byt, c0, List.length_map, p_entry_cursor_look_11_eq, Int.toNat_natCast]
  · have c0 : (b.length : Int) ≤ p := by omega
    rw [if_neg hp]
    simp only [outC, hset]
    simp (contextual := true) (dsimp := false) (disch := omega) only [↓goDown, goUp, List.length_cons, List.length_nil, List.map_cons, List.map_nil, List.take_succ_cons, List.take_zero, List.drop_succ_cons, List.drop_zero, List.drop_nil, List.take_nil, List.cons_append, List.nil_append, List.append_nil, List.set_cons_zero, List.set_cons_succ, List.all_cons, List.all_nil, ↓reduceIte, reduceCtorEq, ge_iff_le, gt_iff_lt, eq_self_iff_true, beq_self_eq_true, beq_iff_eq, bne_iff_ne, ne_eq, ite_not, Int.reduceEq, Option.getD_some, Option.getD_none, ite_self, Nat.reduceAdd, Nat.reduceSub, Nat.reduceMul, Nat.reduceLeDiff, Nat.reduceEqDiff, Nat.reduceBEq, Nat.reduceBNe, Int.reduceLT, Int.reduceLE, Int.reduceAdd, Int.reduceSub, Int.reduceMul, Int.reduceNeg, Int.reduceNe, Int.reduceBEq, Int.reduceBNe, Int.reduceToNat, hH, c0, List.length_map, fail_is]
    rfl
theorem got_u32_ok {H : Heap} {b : List UInt8} {z : Bool} {c p q : Nat} {v : Nat} (hH : hget H c = some (curB z b p)) :
    run (C k_entry_got_uint32 [.ptr c 0, .int .u32 v, .int .i64 q, .int .i64 0]) H = some (.ok (.int .u32 v) (hset H c (curB z b q))) := by
  have hid := get_lt hH
  unfold curB at hH
  rw [entry_got_uint32_eq]
  simp (contextual := true) (dsimp := false) (disch := omega) only [↓goDown, goUp, List.length_cons, List.length_nil, List.map_cons, List.map_nil, List.take_succ_cons, List.take_zero, List.drop_succ_cons, List.drop_zero, List.drop_nil, List.take_nil, List.cons_append, List.nil_append, List.append_nil, List.set_cons_zero, List.set_cons_succ, List.all_cons, List.all_nil, ↓reduceIte, reduceCtorEq, ge_iff_le, gt_iff_lt, eq_self_iff_true, beq_self_eq_true, beq_iff_eq, bne_iff_ne, ne_eq, ite_not, Int.reduceEq, Option.getD_some, Option.getD_none, ite_self, Nat.reduceAdd, Nat.reduceSub, Nat.reduceMul, Nat.reduceLeDiff, Nat.reduceEqDiff, Nat.reduceBEq, Nat.reduceBNe, Int.reduceLT, Int.reduceLE, Int.reduceAdd, Int.reduceSub, Int.reduceMul, Int.reduceNeg, Int.reduceNe, Int.reduceBEq, Int.reduceBNe, Int.reduceToNat, hH, p_entry_got_uint32_11_eq]
  rfl
theorem got_u32_err {H : Heap} {r v : PV} {q e : Nat} (he : e ≠ 0) :
    run (C k_entry_got_uint32 [r, v, .int .i64 q, .int .i64 e]) H = some (.pan (flt q e) H) := by
  rw [entry_got_uint32_eq]
  have c0 : ¬ (e : Int) = 0 := by omega
  simp (contextual := true) (dsimp := false) (disch := omega) only [↓goDown, goUp, List.length_cons, List.length_nil, List.map_cons, List.map_nil, List.take_succ_cons, List.take_zero, List.drop_succ_cons, List.drop_zero, List.drop_nil, List.take_nil, List.cons_append, List.nil_append, List.append_nil, List.set_cons_zero, List.set_cons_succ, List.all_cons, List.all_nil, ↓reduceIte, reduceCtorEq, ge_iff_le, gt_iff_lt, eq_self_iff_true, beq_self_eq_true, beq_iff_eq, bne_iff_ne, ne_eq, ite_not, Int.reduceEq, Option.getD_some, Option.getD_none, ite_self, Nat.reduceAdd, Nat.reduceSub, Nat.reduceMul, Nat.reduceLeDiff, Nat.reduceEqDiff, Nat.reduceBEq, Nat.reduceBNe, Int.reduceLT, Int.reduceLE, Int.reduceAdd, Int.reduceSub, Int.reduceMul, Int.reduceNeg, Int.reduceNe, Int.reduceBEq, Int.reduceBNe, Int.reduceToNat, c0, fail_is]
  rfl
theorem got_i64_ok {H : Heap} {b : List UInt8} {z : Bool} {c p q : Nat} {v : Int} (hH : hget H c = some (curB z b p)) :
    run (C k_entry_got_int64 [.ptr c 0, .int .i64 v, .int .i64 q, .int .i64 0]) H = some (.ok (.int .i64 v) (hset H c (curB z b q))) := by
  have hid := get_lt hH
  unfold curB at hH
  rw [entry_got_int64_eq]
  simp (contextual := true) (dsimp := false) (disch := omega) only [↓goDown, goUp, List.length_cons, List.length_nil, List.map_cons, List.map_nil, List.take_succ_cons, List.take_zero, List.drop_succ_cons, List.drop_zero, List.drop_nil, List.take_nil, List.cons_append, List.nil_append, List.append_nil, List.set_cons_zero, List.set_cons_succ, List.all_cons, List.all_nil, ↓reduceIte, reduceCtorEq, ge_iff_le, gt_iff_lt, eq_self_iff_true, beq_self_eq_true, beq_iff_eq, bne_iff_ne, ne_eq, ite_not, Int.reduceEq, Option.getD_some, Option.getD_none, ite_self, Nat.reduceAdd, Nat.reduceSub, Nat.reduceMul, Nat.reduceLeDiff, Nat.reduceEqDiff, Nat.reduceBEq, Nat.reduceBNe, Int.reduceLT, Int.reduceLE, Int.reduceAdd, Int.reduceSub, Int.reduceMul, Int.reduceNeg, Int.reduceNe, Int.reduceBEq, Int.reduceBNe, Int.reduceToNat, hH, p_entry_got_int64_11_eq]
  rfl
theorem got_i64_err {H : Heap} {r v : PV} {q e : Nat} (he : e ≠ 0) :
    run (C k_entry_got_int64 [r, v, .int .i64 q, .int .i64 e]) H = some (.pan (flt q e) H) := by
  rw [entry_got_int64_eq]
  have c0 : ¬ (e : Int) = 0 := by omega
  simp (contextual := true) (dsimp := false) (disch := omega) only [↓goDown, goUp, List.length_cons, List.length_nil, List.map_cons, List.map_nil, List.take_succ_cons, List.take_zero, List.drop_succ_cons, List.drop_zero, List.drop_nil, List.take_nil, List.cons_append, List.nil_append, List.append_nil, List.set_cons_zero, List.set_cons_succ, List.all_cons, List.all_nil, ↓reduceIte, reduceCtorEq, ge_iff_le, gt_iff_lt, eq_self_iff_true, beq_self_eq_true, beq_iff_eq, bne_iff_ne, ne_eq, ite_not, Int.reduceEq, Option.getD_some, Option.getD_none, ite_self, Nat.reduceAdd, Nat.reduceSub, Nat.reduceMul, Nat.reduceLeDiff, Nat.reduceEqDiff, Nat.reduceBEq, Nat.reduceBNe, Int.reduceLT, Int.reduceLE, Int.reduceAdd, Int.reduceSub, Int.reduceMul, Int.reduceNeg, Int.reduceNe, Int.reduceBEq, Int.reduceBNe, Int.reduceToNat, c0, fail_is]
  rfl
theorem lebU_err {b : List UInt8} {B e : Nat} : ∀ (f i n p : Nat) a w, lebU b B e f i n p = .err a w → w = 3 ∨ w = 4
  | 0, i, n, p, a, w, h => by cases h; exact .inr rfl
  | f + 1, i, n, p, a, w, h => by
    unfold lebU at h
    by_cases h1 : p < e
    · simp only [if_pos h1] at h
      by_cases h2 : B < 7 * i + 7 ∧ (b.getD p 0).toNat / 2 ^ (B - 7 * i) ≠ 0
      · simp only [if_pos h2, Rs.err.injEq] at h; exact .inr h.2.symm
      · simp only [if_neg h2] at h
        by_cases h3 : (b.getD p 0).toNat < 128
        · simp only [if_pos h3] at h; cases h
        · simp only [if_neg h3] at h; exact lebU_err f _ _ _ a w h
    · simp only [if_neg h1, Rs.err.injEq] at h; exact .inl h.2.symm
theorem lebS_err {b : List UInt8} {B e : Nat} : ∀ (f i n p : Nat) a w, lebS b B e f i n p = .err a w → w = 3 ∨ w = 4
  | 0, i, n, p, a, w, h => by cases h; exact .inr rfl
  | f + 1, i, n, p, a, w, h => by
    unfold lebS at h
    by_cases h1 : p < e
    · simp only [if_pos h1] at h
      by_cases h2 : B < 7 * i + 7 ∧ ¬ okS (B - 7 * i) (b.getD p 0).toNat
      · simp only [if_pos h2, Rs.err.injEq] at h; exact .inr h.2.symm
      · simp only [if_neg h2] at h
        by_cases h3 : (b.getD p 0).toNat < 128
        · simp only [if_pos h3] at h; cases h
        · simp only [if_neg h3] at h; exact lebS_err f _ _ _ a w h
    · simp only [if_neg h1, Rs.err.injEq] at h; exact .inl h.2.symm
theorem rdU_err {b : List UInt8} {B e p a w : Nat} (h : rdU b B e p = .err a w) : w ≠ 0 := by have := lebU_err 10 0 0 p a w h; omega
theorem rdS_err {b : List UInt8} {B e p a w : Nat} (h : rdS b B e p = .err a w) : w ≠ 0 := by have := lebS_err 10 0 0 p a w h; omega
def rU32 (b : List UInt8) (p : Nat) : Rs Nat := rdU b 32 b.length p
theorem u32_is {H : Heap} {b : List UInt8} {z : Bool} {c p : Nat} (hH : hget H c = some (curB z b p)) (hb : b.length < 2 ^ 61) (hp : p ≤ b.length) :
    run (C k_entry_cursor_u32 [.ptr c 0]) H = outC z b c H p (fun x : Nat => .int .u32 x) (rU32 b p) := by
  have hid := get_lt hH
  have hset := set_self hH
  have h1 := leb_U32_is (H := H) (b := b) (z := z) (p := p) (Nat.le_refl _) hb hp
  have g1 := fun (q v : Nat) => got_u32_ok (q := q) (v := v) hH
  rw [entry_cursor_u32_eq]
  unfold rU32
  unfold curB at hH
  cases hr : rdU b 32 b.length p with
  | ok v q =>
    rw [hr] at h1
    simp only [retK] at h1
    simp only [outC]
    simp (contextual := true) (dsimp := false) (disch := omega) only [↓goDown, goUp, List.length_cons, List.length_nil, List.map_cons, List.map_nil, List.take_succ_cons, List.take_zero, List.drop_succ_cons, List.drop_zero, List.drop_nil, List.take_nil, List.cons_append, List.nil_append, List.append_nil, List.set_cons_zero, List.set_cons_succ, List.all_cons, List.all_nil, ↓reduceIte, reduceCtorEq, ge_iff_le, gt_iff_lt, eq_self_iff_true, beq_self_eq_true, beq_iff_eq, bne_iff_ne, ne_eq, ite_not, Int.reduceEq, Option.getD_some, Option.getD_none, ite_self, Nat.reduceAdd, Nat.reduceSub, Nat.reduceMul, Nat.reduceLeDiff, Nat.reduceEqDiff, Nat.reduceBEq, Nat.reduceBNe, Int.reduceLT, Int.reduceLE, Int.reduceAdd, Int.reduceSub, Int.reduceMul, Int.reduceNeg, Int.reduceNe, Int.reduceBEq, Int.reduceBNe, Int.reduceToNat, hH, h1, g1, List.length_map]
  | err a w =>
    rw [hr] at h1
    simp only [retK] at h1
    simp only [outC, hset]
    have g2 := fun (u : PV) => got_u32_err (H := H) (r := .ptr c 0) (v := u) (q := a) (rdU_err hr)
    simp (contextual := true) (dsimp := false) (disch := omega) only [↓goDown, goUp, List.length_cons, List.length_nil, List.map_cons, List.map_nil, List.take_succ_cons, List.take_zero, List.drop_succ_cons, List.drop_zero, List.drop_nil, List.take_nil, List.cons_append, List.nil_append, List.append_nil, List.set_cons_zero, List.set_cons_succ, List.all_cons, List.all_nil, ↓reduceIte, reduceCtorEq, ge_iff_le, gt_iff_lt, eq_self_iff_true, beq_self_eq_true, beq_iff_eq, bne_iff_ne, ne_eq, ite_not, Int.reduceEq, Option.getD_some, Option.getD_none, ite_self, Nat.reduceAdd, Nat.reduceSub, Nat.reduceMul, Nat.reduceLeDiff, Nat.reduceEqDiff, Nat.reduceBEq, Nat.reduceBNe, Int.reduceLT, Int.reduceLE, Int.reduceAdd, Int.reduceSub, Int.reduceMul, Int.reduceNeg, Int.reduceNe, Int.reduceBEq, Int.reduceBNe, Int.reduceToNat, hH, h1, g2, List.length_map]
    rfl
def rS33 (b : List UInt8) (p : Nat) : Rs Int :=
  match rdS b 33 b.length p with
  | .ok n q => if n < 0 then .err p 4 else if 2147483647 < n then .err p 2 else .ok n q
  | .err a w => .err a w
theorem s33_is {H : Heap} {b : List UInt8} {z : Bool} {c p : Nat} (hH : hget H c = some (curB z b p)) (hb : b.length < 2 ^ 61) (hp : p ≤ b.length) :
    ∃ q, run (C k_entry_cursor_s33 [.ptr c 0]) H = outC z b c H q (fun x : Int => .int .i64 x) (rS33 b p) := by
  have hid := get_lt hH
  have hset := set_self hH
  have hs' : Pi.hset H c (.cells [BS z b, .int .i64 p]) = H := hset
  have h1 := leb_S33_is (H := H) (b := b) (z := z) (p := p) (Nat.le_refl _) hb hp
  have g1 := fun (q : Nat) (v : Int) => got_i64_ok (q := q) (v := v) hH
  rw [entry_cursor_s33_eq]
  unfold rS33
  unfold curB at hH
  cases hr : rdS b 33 b.length p with
  | ok v q =>
    have hv := rdS_lt hr
    rw [hr] at h1
    simp only [retS] at h1
    refine ⟨q, ?_⟩
    by_cases n1 : v < 0
    · simp only [n1, if_true, outC]
      simp (contextual := true) (dsimp := false) (disch := omega) only [↓goDown, goUp, List.length_cons, List.length_nil, List.map_cons, List.map_nil, List.take_succ_cons, List.take_zero, List.drop_succ_cons, List.drop_zero, List.drop_nil, List.take_nil, List.cons_append, List.nil_append, List.append_nil, List.set_cons_zero, List.set_cons_succ, List.all_cons, List.all_nil, ↓reduceIte, reduceCtorEq, ge_iff_le, gt_iff_lt, eq_self_iff_true, beq_self_eq_true, beq_iff_eq, bne_iff_ne, ne_eq, ite_not, Int.reduceEq, Option.getD_some, Option.getD_none, ite_self, Nat.reduceAdd, Nat.reduceSub, Nat.reduceMul, Nat.reduceLeDiff, Nat.reduceEqDiff, Nat.reduceBEq, Nat.reduceBNe, Int.reduceLT, Int.reduceLE, Int.reduceAdd, Int.reduceSub, Int.reduceMul, Int.reduceNeg, Int.reduceNe, Int.reduceBEq, Int.reduceBNe, Int.reduceToNat, hH, hs', h1, g1, List.length_map, n1, fail_is]
      rfl
    · by_cases n2 : 2147483647 < v
      · simp only [n1, n2, if_true, if_false, outC]
        simp (contextual := true) (dsimp := false) (disch := omega) only [↓goDown, goUp, List.length_cons, List.length_nil, List.map_cons, List.map_nil, List.take_succ_cons, List.take_zero, List.drop_succ_cons, List.drop_zero, List.drop_nil, List.take_nil, List.cons_append, List.nil_append, List.append_nil, List.set_cons_zero, List.set_cons_succ, List.all_cons, List.all_nil, ↓reduceIte, reduceCtorEq, ge_iff_le, gt_iff_lt, eq_self_iff_true, beq_self_eq_true, beq_iff_eq, bne_iff_ne, ne_eq, ite_not, Int.reduceEq, Option.getD_some, Option.getD_none, ite_self, Nat.reduceAdd, Nat.reduceSub, Nat.reduceMul, Nat.reduceLeDiff, Nat.reduceEqDiff, Nat.reduceBEq, Nat.reduceBNe, Int.reduceLT, Int.reduceLE, Int.reduceAdd, Int.reduceSub, Int.reduceMul, Int.reduceNeg, Int.reduceNe, Int.reduceBEq, Int.reduceBNe, Int.reduceToNat, hH, hs', h1, g1, List.length_map, n1, n2, fail_is]
        rfl
      · simp only [n1, n2, if_true, if_false, outC]
        simp (contextual := true) (dsimp := false) (disch := omega) only [↓goDown, goUp, List.length_cons, List.length_nil, List.map_cons, List.map_nil, List.take_succ_cons, List.take_zero, List.drop_succ_cons, List.drop_zero, List.drop_nil, List.take_nil, List.cons_append, List.nil_append, List.append_nil, List.set_cons_zero, List.set_cons_succ, List.all_cons, List.all_nil, ↓reduceIte, reduceCtorEq, ge_iff_le, gt_iff_lt, eq_self_iff_true, beq_self_eq_true, beq_iff_eq, bne_iff_ne, ne_eq, ite_not, Int.reduceEq, Option.getD_some, Option.getD_none, ite_self, Nat.reduceAdd, Nat.reduceSub, Nat.reduceMul, Nat.reduceLeDiff, Nat.reduceEqDiff, Nat.reduceBEq, Nat.reduceBNe, Int.reduceLT, Int.reduceLE, Int.reduceAdd, Int.reduceSub, Int.reduceMul, Int.reduceNeg, Int.reduceNe, Int.reduceBEq, Int.reduceBNe, Int.reduceToNat, hH, hs', h1, g1, List.length_map, n1, n2, p_entry_cursor_s33_11111_eq]
  | err a w =>
    rw [hr] at h1
    simp only [retS] at h1
    refine ⟨p, ?_⟩
    simp only [outC, hset]
    have g2 := fun (u : PV) => got_i64_err (H := H) (r := .ptr c 0) (v := u) (q := a) (rdS_err hr)
    simp (contextual := true) (dsimp := false) (disch := omega) only [↓goDown, goUp, List.length_cons, List.length_nil, List.map_cons, List.map_nil, List.take_succ_cons, List.take_zero, List.drop_succ_cons, List.drop_zero, List.drop_nil, List.take_nil, List.cons_append, List.nil_append, List.append_nil, List.set_cons_zero, List.set_cons_succ, List.all_cons, List.all_nil, ↓reduceIte, reduceCtorEq, ge_iff_le, gt_iff_lt, eq_self_iff_true, beq_self_eq_true, beq_iff_eq, bne_iff_ne, ne_eq, ite_not, Int.reduceEq, Option.getD_some, Option.getD_none, ite_self, Nat.reduceAdd, Nat.reduceSub, Nat.reduceMul, Nat.reduceLeDiff, Nat.reduceEqDiff, Nat.reduceBEq, Nat.reduceBNe, Int.reduceLT, Int.reduceLE, Int.reduceAdd, Int.reduceSub, Int.reduceMul, Int.reduceNeg, Int.reduceNe, Int.reduceBEq, Int.reduceBNe, Int.reduceToNat, hH, hs', h1, g2, List.length_map]
    rfl
def hname (c : Nat) : Int :=
  if c = 115 then -2 else if c = 114 then -4 else if c = 113 then -10 else if c = 112 then -1 else if c = 111 then -3 else if c = 110 then -5 else if c = 109 then -6 else if c = 108 then -7 else if c = 107 then -8 else if c = 106 then -9 else if c = 105 then -11 else if c = 116 then -12 else 0
theorem abstract_is {H : Heap} : run (C k_entry_abstract []) H = some (.ok (.agg [.int .i64 (-11), .int .i64 (-9), .int .i64 (-8), .int .i64 (-7), .int .i64 (-6), .int .i64 (-5), .int .i64 (-3), .int .i64 (-1), .int .i64 (-10), .int .i64 (-4), .int .i64 (-2), .int .i64 (-12)]) H) := by
  rw [entry_abstract_eq]
  simp (contextual := true) (dsimp := false) (disch := omega) only [↓goDown, goUp, List.length_cons, List.length_nil, List.map_cons, List.map_nil, List.take_succ_cons, List.take_zero, List.drop_succ_cons, List.drop_zero, List.drop_nil, List.take_nil, List.cons_append, List.nil_append, List.append_nil, List.set_cons_zero, List.set_cons_succ, List.all_cons, List.all_nil, ↓reduceIte, reduceCtorEq, ge_iff_le, gt_iff_lt, eq_self_iff_true, beq_self_eq_true, beq_iff_eq, bne_iff_ne, ne_eq, ite_not, Int.reduceEq, Option.getD_some, Option.getD_none, ite_self, Nat.reduceAdd, Nat.reduceSub, Nat.reduceMul, Nat.reduceLeDiff, Nat.reduceEqDiff, Nat.reduceBEq, Nat.reduceBNe, Int.reduceLT, Int.reduceLE, Int.reduceAdd, Int.reduceSub, Int.reduceMul, Int.reduceNeg, Int.reduceNe, Int.reduceBEq, Int.reduceBNe, Int.reduceToNat]
theorem run_ixA {len : Nat} {cs : List PV} {k : IntKind} {n : Int} {H : Heap} : run (ixA len 1 none (.agg cs) (.int k n)) H = if 0 ≤ n ∧ n < len then ldFR H (nth cs n.toNat) else none := by
  unfold run ixA fd
  by_cases h : 0 ≤ n ∧ n < len
  · have h1 : (decide (0 ≤ n) && decide (n < (len : Int))) = true := by simp [h]
    rw [if_pos h]
    simp only [h1, cond_true, Nat.mul_one, nth_is]
    cases nth cs n.toNat <;> rfl
  · have h1 : (decide (0 ≤ n) && decide (n < (len : Int))) = false := by
      rw [Bool.and_eq_false_iff]
      by_cases h0 : 0 ≤ n
      · right; simp; omega
      · left; simp; omega
    rw [if_neg h]
    simp only [h1, cond_false]
    rfl
theorem hname_out {c : Nat} (h : c < 105 ∨ 116 < c) : hname c = 0 := by
  unfold hname
  rw [if_neg (by omega), if_neg (by omega), if_neg (by omega), if_neg (by omega), if_neg (by omega), if_neg (by omega), if_neg (by omega), if_neg (by omega), if_neg (by omega), if_neg (by omega), if_neg (by omega), if_neg (by omega)]
theorem named_is {H : Heap} {c : Nat} (hc : c < 256) : run (C k_entry_named [.int .u8 c]) H = some (.ok (.int .i64 (hname c)) H) := by
  rw [entry_named_eq]
  by_cases h1 : c < 105
  · have c1 : (c : Int) < 105 := by omega
    have : hname c = 0 := hname_out (.inl h1)
    rw [this]
    simp (contextual := true) (dsimp := false) (disch := omega) only [↓goDown, goUp, List.length_cons, List.length_nil, List.map_cons, List.map_nil, List.take_succ_cons, List.take_zero, List.drop_succ_cons, List.drop_zero, List.drop_nil, List.take_nil, List.cons_append, List.nil_append, List.append_nil, List.set_cons_zero, List.set_cons_succ, List.all_cons, List.all_nil, ↓reduceIte, reduceCtorEq, ge_iff_le, gt_iff_lt, eq_self_iff_true, beq_self_eq_true, beq_iff_eq, bne_iff_ne, ne_eq, ite_not, Int.reduceEq, Option.getD_some, Option.getD_none, ite_self, Nat.reduceAdd, Nat.reduceSub, Nat.reduceMul, Nat.reduceLeDiff, Nat.reduceEqDiff, Nat.reduceBEq, Nat.reduceBNe, Int.reduceLT, Int.reduceLE, Int.reduceAdd, Int.reduceSub, Int.reduceMul, Int.reduceNeg, Int.reduceNe, Int.reduceBEq, Int.reduceBNe, Int.reduceToNat, c1]
  · by_cases h2 : 116 < c
    · have c1 : ¬ (c : Int) < 105 := by omega
      have c2 : (116 : Int) < c := by omega
      have : hname c = 0 := hname_out (.inr h2)
      rw [this]
      simp (contextual := true) (dsimp := false) (disch := omega) only [↓goDown, goUp, List.length_cons, List.length_nil, List.map_cons, List.map_nil, List.take_succ_cons, List.take_zero, List.drop_succ_cons, List.drop_zero, List.drop_nil, List.take_nil, List.cons_append, List.nil_append, List.append_nil, List.set_cons_zero, List.set_cons_succ, List.all_cons, List.all_nil, ↓reduceIte, reduceCtorEq, ge_iff_le, gt_iff_lt, eq_self_iff_true, beq_self_eq_true, beq_iff_eq, bne_iff_ne, ne_eq, ite_not, Int.reduceEq, Option.getD_some, Option.getD_none, ite_self, Nat.reduceAdd, Nat.reduceSub, Nat.reduceMul, Nat.reduceLeDiff, Nat.reduceEqDiff, Nat.reduceBEq, Nat.reduceBNe, Int.reduceLT, Int.reduceLE, Int.reduceAdd, Int.reduceSub, Int.reduceMul, Int.reduceNeg, Int.reduceNe, Int.reduceBEq, Int.reduceBNe, Int.reduceToNat, c1, c2]
    · have h : c = 105 ∨ c = 106 ∨ c = 107 ∨ c = 108 ∨ c = 109 ∨ c = 110 ∨ c = 111 ∨ c = 112 ∨ c = 113 ∨ c = 114 ∨ c = 115 ∨ c = 116 := by omega
      rcases h with rfl | rfl | rfl | rfl | rfl | rfl | rfl | rfl | rfl | rfl | rfl | rfl <;>
        simp (contextual := true) (dsimp := false) (disch := omega) only [↓goDown, goUp, List.length_cons, List.length_nil, List.map_cons, List.map_nil, List.take_succ_cons, List.take_zero, List.drop_succ_cons, List.drop_zero, List.drop_nil, List.take_nil, List.cons_append, List.nil_append, List.append_nil, List.set_cons_zero, List.set_cons_succ, List.all_cons, List.all_nil, ↓reduceIte, reduceCtorEq, ge_iff_le, gt_iff_lt, eq_self_iff_true, beq_self_eq_true, beq_iff_eq, bne_iff_ne, ne_eq, ite_not, Int.reduceEq, Option.getD_some, Option.getD_none, ite_self, Nat.reduceAdd, Nat.reduceSub, Nat.reduceMul, Nat.reduceLeDiff, Nat.reduceEqDiff, Nat.reduceBEq, Nat.reduceBNe, Int.reduceLT, Int.reduceLE, Int.reduceAdd, Int.reduceSub, Int.reduceMul, Int.reduceNeg, Int.reduceNe, Int.reduceBEq, Int.reduceBNe, Int.reduceToNat, abstract_is, run_ixA, Int.cast_ofNat_Int, hname] <;> rfl
end Go.Proofs.Ytofbbijagbpicaa.Pi.Q
namespace Go.Proofs.Ytofbbijagbpicaa.Pi.Q
open Go Go.Proofs.Ytofbbijagbpicaa.Pi
set_option linter.unusedVariables false
set_option linter.unusedSimpArgs false
set_option maxRecDepth 100000
attribute [local congr] ite_congr
theorem look_ok {H : Heap} {b : List UInt8} {z : Bool} {c p : Nat} (hH : hget H c = some (curB z b p)) (hb : b.length < 2 ^ 61) (hp : p < b.length) :
    run (C k_entry_cursor_look [.ptr c 0]) H = some (.ok (.int .u8 (b.getD p 0).toNat) H) := by
  rw [look_is hH hb]
  unfold rLook
  rw [if_pos hp]
  simp only [outC, set_self hH]
theorem look_err {H : Heap} {b : List UInt8} {z : Bool} {c p : Nat} (hH : hget H c = some (curB z b p)) (hb : b.length < 2 ^ 61) (hp : ¬ p < b.length) :
    run (C k_entry_cursor_look [.ptr c 0]) H = some (.pan (flt b.length 3) H) := by
  rw [look_is hH hb]
  unfold rLook
  rw [if_neg hp]
  simp only [outC, set_self hH]
def rHeap (b : List UInt8) (p : Nat) : Rs Int :=
  if p < b.length then
    if hname (b.getD p 0).toNat ≠ 0 then .ok (hname (b.getD p 0).toNat) (p + 1) else rS33 b p
  else .err b.length 3
theorem low_flt {n a w : Nat} : (flt a w).low n = true := by simp [flt, low_iface, low_agg, lowL_cons, lowL_nil, low_int]
theorem heap_is {H : Heap} {b : List UInt8} {z : Bool} {c p : Nat} (hH : hget H c = some (curB z b p)) (hb : b.length < 2 ^ 61) (hp : p ≤ b.length) :
    ∃ q, run (C k_entry_cursor_heap [.ptr c 0]) H = outC z b c H q (fun x : Int => .int .i64 x) (rHeap b p) := by
  have hid := get_lt hH
  have hset := set_self hH
  rw [entry_cursor_heap_eq]
  unfold rHeap
  by_cases h1 : p < b.length
  · have hl := look_ok hH hb h1
    have hc := byt_lt (b.getD p 0)
    rw [if_pos h1]
    generalize (b.getD p 0).toNat = x at hl hc ⊢
    have hn := named_is (H := H) hc
    by_cases h2 : hname x = 0
    · obtain ⟨q, hs⟩ := s33_is hH hb hp
      refine ⟨q, ?_⟩
      rw [if_neg (by simpa using h2)]
      cases hr : rS33 b p with
      | ok v q' =>
        rw [hr] at hs
        simp only [outC] at hs ⊢
        simp (contextual := true) (dsimp := false) (disch := omega) only [↓goDown, goUp, List.length_cons, List.length_nil, List.map_cons, List.map_nil, List.take_succ_cons, List.take_zero, List.drop_succ_cons, List.drop_zero, List.drop_nil, List.take_nil, List.cons_append, List.nil_append, List.append_nil, List.set_cons_zero, List.set_cons_succ, List.all_cons, List.all_nil, ↓reduceIte, reduceCtorEq, ge_iff_le, gt_iff_lt, eq_self_iff_true, beq_self_eq_true, beq_iff_eq, bne_iff_ne, ne_eq, ite_not, Int.reduceEq, Option.getD_some, Option.getD_none, ite_self, Nat.reduceAdd, Nat.reduceSub, Nat.reduceMul, Nat.reduceLeDiff, Nat.reduceEqDiff, Nat.reduceBEq, Nat.reduceBNe, Int.reduceLT, Int.reduceLE, Int.reduceAdd, Int.reduceSub, Int.reduceMul, Int.reduceNeg, Int.reduceNe, Int.reduceBEq, Int.reduceBNe, Int.reduceToNat, hl, hn, h2, hs]
      | err a w =>
        rw [hr] at hs
        simp only [outC] at hs ⊢
        simp (contextual := true) (dsimp := false) (disch := omega) only [↓goDown, goUp, List.length_cons, List.length_nil, List.map_cons, List.map_nil, List.take_succ_cons, List.take_zero, List.drop_succ_cons, List.drop_zero, List.drop_nil, List.take_nil, List.cons_append, List.nil_append, List.append_nil, List.set_cons_zero, List.set_cons_succ, List.all_cons, List.all_nil, ↓reduceIte, reduceCtorEq, ge_iff_le, gt_iff_lt, eq_self_iff_true, beq_self_eq_true, beq_iff_eq, bne_iff_ne, ne_eq, ite_not, Int.reduceEq, Option.getD_some, Option.getD_none, ite_self, Nat.reduceAdd, Nat.reduceSub, Nat.reduceMul, Nat.reduceLeDiff, Nat.reduceEqDiff, Nat.reduceBEq, Nat.reduceBNe, Int.reduceLT, Int.reduceLE, Int.reduceAdd, Int.reduceSub, Int.reduceMul, Int.reduceNeg, Int.reduceNe, Int.reduceBEq, Int.reduceBNe, Int.reduceToNat, hl, hn, h2, hs, low_flt]
    · refine ⟨p, ?_⟩
      rw [if_pos (by simpa using h2)]
      simp only [outC]
      unfold curB at hH ⊢
      simp (contextual := true) (dsimp := false) (disch := omega) only [↓goDown, goUp, List.length_cons, List.length_nil, List.map_cons, List.map_nil, List.take_succ_cons, List.take_zero, List.drop_succ_cons, List.drop_zero, List.drop_nil, List.take_nil, List.cons_append, List.nil_append, List.append_nil, List.set_cons_zero, List.set_cons_succ, List.all_cons, List.all_nil, ↓reduceIte, reduceCtorEq, ge_iff_le, gt_iff_lt, eq_self_iff_true, beq_self_eq_true, beq_iff_eq, bne_iff_ne, ne_eq, ite_not, Int.reduceEq, Option.getD_some, Option.getD_none, ite_self, Nat.reduceAdd, Nat.reduceSub, Nat.reduceMul, Nat.reduceLeDiff, Nat.reduceEqDiff, Nat.reduceBEq, Nat.reduceBNe, Int.reduceLT, Int.reduceLE, Int.reduceAdd, Int.reduceSub, Int.reduceMul, Int.reduceNeg, Int.reduceNe, Int.reduceBEq, Int.reduceBNe, Int.reduceToNat, hl, hn, h2, hH]
      rfl
  · refine ⟨p, ?_⟩
    have hl := look_err hH hb h1
    rw [if_neg h1]
    simp only [outC, hset]
    simp (contextual := true) (dsimp := false) (disch := omega) only [↓goDown, goUp, List.length_cons, List.length_nil, List.map_cons, List.map_nil, List.take_succ_cons, List.take_zero, List.drop_succ_cons, List.drop_zero, List.drop_nil, List.take_nil, List.cons_append, List.nil_append, List.append_nil, List.set_cons_zero, List.set_cons_succ, List.all_cons, List.all_nil, ↓reduceIte, reduceCtorEq, ge_iff_le, gt_iff_lt, eq_self_iff_true, beq_self_eq_true, beq_iff_eq, bne_iff_ne, ne_eq, ite_not, Int.reduceEq, Option.getD_some, Option.getD_none, ite_self, Nat.reduceAdd, Nat.reduceSub, Nat.reduceMul, Nat.reduceLeDiff, Nat.reduceEqDiff, Nat.reduceBEq, Nat.reduceBNe, Int.reduceLT, Int.reduceLE, Int.reduceAdd, Int.reduceSub, Int.reduceMul, Int.reduceNeg, Int.reduceNe, Int.reduceBEq, Int.reduceBNe, Int.reduceToNat, hl, low_flt]
structure VT where
  num : Int
  nul : Bool
  heap : Int
  deriving DecidableEq
def encV (v : VT) : PV := .agg [.int .i64 v.num, .bool v.nul, .int .i64 v.heap]
def rRef (b : List UInt8) (p : Nat) : Rs VT :=
  if p < b.length then
    let x := (b.getD p 0).toNat
    if hname x ≠ 0 then .ok ⟨5, true, hname x⟩ (p + 1)
    else if x ≠ 99 ∧ x ≠ 100 then .err p 4
    else match rHeap b (p + 1) with
      | .ok h q => .ok ⟨5, x == 99, h⟩ q
      | .err a w => .err a w
  else .err b.length 3
theorem ns (p : Nat) : ((p + 1 : Nat) : Int) = (p : Int) + 1 := rfl
theorem ref_is {H : Heap} {b : List UInt8} {z : Bool} {c p : Nat} (hH : hget H c = some (curB z b p)) (hb : b.length < 2 ^ 61) (hp : p ≤ b.length) :
    ∃ q, run (C k_entry_cursor_ref [.ptr c 0]) H = outC z b c H q encV (rRef b p) := by
  have hid := get_lt hH
  have hset := set_self hH
  rw [entry_cursor_ref_eq]
  unfold rRef
  have hH1 : ∀ L, hget (hadd H L) c = some (curB z b p) := fun L => by rw [get_old hid]; exact hH
  by_cases h1 : p < b.length
  · have hl := fun L => look_ok (hH1 L) hb h1
    have hc := byt_lt (b.getD p 0)
    rw [if_pos h1]
    generalize (b.getD p 0).toNat = x at hl hc ⊢
    have hn := fun L => named_is (H := hadd H L) hc
    by_cases h2 : hname x = 0
    · simp only [h2, ne_eq, not_true_eq_false, if_false]
      by_cases h3 : ¬ x = 99 ∧ ¬ x = 100
      · refine ⟨p, ?_⟩
        rw [if_pos h3]
        have c1 : ¬ (x : Int) = 99 := by omega
        have c2 : ¬ (x : Int) = 100 := by omega
        simp only [outC, hset]
        unfold curB at hH
        simp (contextual := true) (dsimp := false) (disch := omega) only [↓goDown, goUp, List.length_cons, List.length_nil, List.map_cons, List.map_nil, List.take_succ_cons, List.take_zero, List.drop_succ_cons, List.drop_zero, List.drop_nil, List.take_nil, List.cons_append, List.nil_append, List.append_nil, List.set_cons_zero, List.set_cons_succ, List.all_cons, List.all_nil, ↓reduceIte, reduceCtorEq, ge_iff_le, gt_iff_lt, eq_self_iff_true, beq_self_eq_true, beq_iff_eq, bne_iff_ne, ne_eq, ite_not, Int.reduceEq, Option.getD_some, Option.getD_none, ite_self, Nat.reduceAdd, Nat.reduceSub, Nat.reduceMul, Nat.reduceLeDiff, Nat.reduceEqDiff, Nat.reduceBEq, Nat.reduceBNe, Int.reduceLT, Int.reduceLE, Int.reduceAdd, Int.reduceSub, Int.reduceMul, Int.reduceNeg, Int.reduceNe, Int.reduceBEq, Int.reduceBNe, Int.reduceToNat, hl, hn, h2, hH, c1, c2, fail_is]
        rfl
      · rw [if_neg h3]
        have hH2 : ∀ L, hget (hadd (Pi.hset H c (curB z b (p + 1))) L) c = some (curB z b (p + 1)) := fun L => by
          rw [get_old1 hid, get_set hid]
        obtain ⟨q, hk⟩ := heap_is (hH2 [.cells [.int .i64 0, .bool false, .int .i64 0]]) hb (by omega)
        refine ⟨q, ?_⟩
        have so : ∀ u L, Pi.hset (hadd (Pi.hset H c (curB z b (p + 1))) L) c (curB z b u) = hadd (Pi.hset H c (curB z b u)) L := fun u L => by
          rw [set_old1 hid, set_set]
        have fin : ∀ (t : Bool), ((x : Int) == 99) = t → (((x : Int) = 99) = (t = true)) → ((x == 99) = t) → (((x : Int) = 99) ∨ ((x : Int) = 100)) →
            truncR H (run (p_entry_cursor_ref_1111 (.ptr c 0) (.ptr H.length 0) (.int .u8 x)) (hadd H [.cells [.int .i64 0, .bool false, .int .i64 0]])) = outC z b c H q encV (match rHeap b (p + 1) with | .ok h q => .ok ⟨5, x == 99, h⟩ q | .err a w => .err a w) := by
          intro t ht ht2 ht3 ho
          rw [ht3]
          cases hr : rHeap b (p + 1) with
          | ok v q' =>
            rw [hr] at hk
            simp only [outC, so] at hk ⊢
            unfold curB at hH hk ⊢
            simp only [ns] at hk
            simp (contextual := true) (dsimp := false) (disch := omega) only [↓goDown, goUp, List.length_cons, List.length_nil, List.map_cons, List.map_nil, List.take_succ_cons, List.take_zero, List.drop_succ_cons, List.drop_zero, List.drop_nil, List.take_nil, List.cons_append, List.nil_append, List.append_nil, List.set_cons_zero, List.set_cons_succ, List.all_cons, List.all_nil, ↓reduceIte, reduceCtorEq, ge_iff_le, gt_iff_lt, eq_self_iff_true, beq_self_eq_true, beq_iff_eq, bne_iff_ne, ne_eq, ite_not, Int.reduceEq, Option.getD_some, Option.getD_none, ite_self, Nat.reduceAdd, Nat.reduceSub, Nat.reduceMul, Nat.reduceLeDiff, Nat.reduceEqDiff, Nat.reduceBEq, Nat.reduceBNe, Int.reduceLT, Int.reduceLE, Int.reduceAdd, Int.reduceSub, Int.reduceMul, Int.reduceNeg, Int.reduceNe, Int.reduceBEq, Int.reduceBNe, Int.reduceToNat, hH, hk, p_entry_cursor_ref_1111_eq, ht]
            rfl
          | err a w =>
            rw [hr] at hk
            simp only [outC, so] at hk ⊢
            unfold curB at hH hk ⊢
            simp only [ns] at hk
            simp (contextual := true) (dsimp := false) (disch := omega) only [↓goDown, goUp, List.length_cons, List.length_nil, List.map_cons, List.map_nil, List.take_succ_cons, List.take_zero, List.drop_succ_cons, List.drop_zero, List.drop_nil, List.take_nil, List.cons_append, List.nil_append, List.append_nil, List.set_cons_zero, List.set_cons_succ, List.all_cons, List.all_nil, ↓reduceIte, reduceCtorEq, ge_iff_le, gt_iff_lt, eq_self_iff_true, beq_self_eq_true, beq_iff_eq, bne_iff_ne, ne_eq, ite_not, Int.reduceEq, Option.getD_some, Option.getD_none, ite_self, Nat.reduceAdd, Nat.reduceSub, Nat.reduceMul, Nat.reduceLeDiff, Nat.reduceEqDiff, Nat.reduceBEq, Nat.reduceBNe, Int.reduceLT, Int.reduceLE, Int.reduceAdd, Int.reduceSub, Int.reduceMul, Int.reduceNeg, Int.reduceNe, Int.reduceBEq, Int.reduceBNe, Int.reduceToNat, hH, hk, p_entry_cursor_ref_1111_eq, ht, low_flt]
        by_cases c1 : x = 99
        · have e1 : ((x : Int) = 99) = True := eq_true (by omega)
          have e2 : ((x : Int) == 99) = true := by simpa using e1
          have e3 : (x == 99) = true := by simpa using c1
          refine Eq.trans ?_ (fin true e2 (by simp [e1]) e3 (.inl (by omega)))
          simp (contextual := true) (dsimp := false) (disch := omega) only [↓goDown, goUp, List.length_cons, List.length_nil, List.map_cons, List.map_nil, List.take_succ_cons, List.take_zero, List.drop_succ_cons, List.drop_zero, List.drop_nil, List.take_nil, List.cons_append, List.nil_append, List.append_nil, List.set_cons_zero, List.set_cons_succ, List.all_cons, List.all_nil, ↓reduceIte, reduceCtorEq, ge_iff_le, gt_iff_lt, eq_self_iff_true, beq_self_eq_true, beq_iff_eq, bne_iff_ne, ne_eq, ite_not, Int.reduceEq, Option.getD_some, Option.getD_none, ite_self, Nat.reduceAdd, Nat.reduceSub, Nat.reduceMul, Nat.reduceLeDiff, Nat.reduceEqDiff, Nat.reduceBEq, Nat.reduceBNe, Int.reduceLT, Int.reduceLE, Int.reduceAdd, Int.reduceSub, Int.reduceMul, Int.reduceNeg, Int.reduceNe, Int.reduceBEq, Int.reduceBNe, Int.reduceToNat, hl, hn, h2, e1]
        · have e1 : ((x : Int) = 99) = False := eq_false (by omega)
          have e2 : ((x : Int) == 99) = false := by simpa using e1
          have e3 : (x == 99) = false := by simpa using c1
          have e4 : ((x : Int) = 100) = True := eq_true (by omega)
          refine Eq.trans ?_ (fin false e2 (by simp [e1]) e3 (.inr (by omega)))
          simp (contextual := true) (dsimp := false) (disch := omega) only [↓goDown, goUp, List.length_cons, List.length_nil, List.map_cons, List.map_nil, List.take_succ_cons, List.take_zero, List.drop_succ_cons, List.drop_zero, List.drop_nil, List.take_nil, List.cons_append, List.nil_append, List.append_nil, List.set_cons_zero, List.set_cons_succ, List.all_cons, List.all_nil, ↓reduceIte, reduceCtorEq, ge_iff_le, gt_iff_lt, eq_self_iff_true, beq_self_eq_true, beq_iff_eq, bne_iff_ne, ne_eq, ite_not, Int.reduceEq, Option.getD_some, Option.getD_none, ite_self, Nat.reduceAdd, Nat.reduceSub, Nat.reduceMul, Nat.reduceLeDiff, Nat.reduceEqDiff, Nat.reduceBEq, Nat.reduceBNe, Int.reduceLT, Int.reduceLE, Int.reduceAdd, Int.reduceSub, Int.reduceMul, Int.reduceNeg, Int.reduceNe, Int.reduceBEq, Int.reduceBNe, Int.reduceToNat, hl, hn, h2, e1, e4]
    · refine ⟨p, ?_⟩
      rw [if_pos (by simpa using h2)]
      simp only [outC]
      unfold curB at hH ⊢
      simp (contextual := true) (dsimp := false) (disch := omega) only [↓goDown, goUp, List.length_cons, List.length_nil, List.map_cons, List.map_nil, List.take_succ_cons, List.take_zero, List.drop_succ_cons, List.drop_zero, List.drop_nil, List.take_nil, List.cons_append, List.nil_append, List.append_nil, List.set_cons_zero, List.set_cons_succ, List.all_cons, List.all_nil, ↓reduceIte, reduceCtorEq, ge_iff_le, gt_iff_lt, eq_self_iff_true, beq_self_eq_true, beq_iff_eq, bne_iff_ne, ne_eq, ite_not, Int.reduceEq, Option.getD_some, Option.getD_none, ite_self, Nat.reduceAdd, Nat.reduceSub, Nat.reduceMul, Nat.reduceLeDiff, Nat.reduceEqDiff, Nat.reduceBEq, Nat.reduceBNe, Int.reduceLT, Int.reduceLE, Int.reduceAdd, Int.reduceSub, Int.reduceMul, Int.reduceNeg, Int.reduceNe, Int.reduceBEq, Int.reduceBNe, Int.reduceToNat, hl, hn, h2, hH, ns]
      rfl
  · refine ⟨p, ?_⟩
    have hl := fun L => look_err (hH1 L) hb h1
    rw [if_neg h1]
    simp only [outC, hset]
    simp (contextual := true) (dsimp := false) (disch := omega) only [↓goDown, goUp, List.length_cons, List.length_nil, List.map_cons, List.map_nil, List.take_succ_cons, List.take_zero, List.drop_succ_cons, List.drop_zero, List.drop_nil, List.take_nil, List.cons_append, List.nil_append, List.append_nil, List.set_cons_zero, List.set_cons_succ, List.all_cons, List.all_nil, ↓reduceIte, reduceCtorEq, ge_iff_le, gt_iff_lt, eq_self_iff_true, beq_self_eq_true, beq_iff_eq, bne_iff_ne, ne_eq, ite_not, Int.reduceEq, Option.getD_some, Option.getD_none, ite_self, Nat.reduceAdd, Nat.reduceSub, Nat.reduceMul, Nat.reduceLeDiff, Nat.reduceEqDiff, Nat.reduceBEq, Nat.reduceBNe, Int.reduceLT, Int.reduceLE, Int.reduceAdd, Int.reduceSub, Int.reduceMul, Int.reduceNeg, Int.reduceNe, Int.reduceBEq, Int.reduceBNe, Int.reduceToNat, hl, low_flt]
end Go.Proofs.Ytofbbijagbpicaa.Pi.Q
