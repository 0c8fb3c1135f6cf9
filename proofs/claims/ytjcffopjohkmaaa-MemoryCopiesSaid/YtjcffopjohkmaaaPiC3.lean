/- What the law rests on, part 4 of 4: a reading of the program's code over told data, and what it comes to. -/
import Derived.Test.YtjcffopjohkmaaaPiC2
set_option linter.unusedVariables false
set_option linter.unusedSimpArgs false
set_option maxRecDepth 100000
namespace Go.Proofs.Ytjcffopjohkmaaa.Pi
theorem goDown : type_of% (And.intro (And.intro (And.intro (And.intro (And.intro @run_bind @ue6) (And.intro @u8i @ubf)) (And.intro (And.intro @uc1
    @run_nb) (And.intro @nbR_ok @uho))) (And.intro (And.intro (And.intro @u6p @u7y) (And.intro @u7f @uas)) (And.intro
    (And.intro @u4y @uac) (And.intro @ueb (And.intro @ue3 @uhn))))) (And.intro (And.intro (And.intro (And.intro @uid
    @uin) (And.intro @run_pure @uh7)) (And.intro (And.intro @udy @u6z) (And.intro @uc0 @u8n))) (And.intro (And.intro
    (And.intro @u7u @u8b) (And.intro @ugk @ud4)) (And.intro (And.intro @uck @uax) (And.intro @uhd (And.intro
    @uei @uef)))))) := (And.intro (And.intro (And.intro (And.intro (And.intro @run_bind @ue6) (And.intro @u8i @ubf)) (And.intro (And.intro @uc1
    @run_nb) (And.intro @nbR_ok @uho))) (And.intro (And.intro (And.intro @u6p @u7y) (And.intro @u7f @uas)) (And.intro
    (And.intro @u4y @uac) (And.intro @ueb (And.intro @ue3 @uhn))))) (And.intro (And.intro (And.intro (And.intro @uid
    @uin) (And.intro @run_pure @uh7)) (And.intro (And.intro @udy @u6z) (And.intro @uc0 @u8n))) (And.intro (And.intro
    (And.intro @u7u @u8b) (And.intro @ugk @ud4)) (And.intro (And.intro @uck @uax) (And.intro @uhd (And.intro
    @uei @uef))))))
theorem goUp : type_of% (And.intro (And.intro (And.intro (And.intro (And.intro (And.intro (And.intro @u90 (And.intro @uey @run_al)) (And.intro (And.intro @run_bx
    @run_ld) (And.intro @run_st @ufo))) (And.intro (And.intro (And.intro @ufl @ufb) (And.intro @uab @u7j)) (And.intro
    (And.intro @ldB_t @ldB_f) (And.intro @stB_is @ueg)))) (And.intro (And.intro (And.intro @uf0 (And.intro @u55 @u9d)) (And.intro
    (And.intro @u56 @u9f) (And.intro @uex @u9y))) (And.intro (And.intro (And.intro @u7h @set_set) (And.intro @u6y @cut0))
    (And.intro (And.intro @cut1 @cut2) (And.intro @cutA0 @cutA1))))) (And.intro (And.intro (And.intro (And.intro @cutA2 (And.intro @u44 @u2j))
    (And.intro (And.intro @w_i64 @w_u64) (And.intro @w_u8 @w_u32))) (And.intro (And.intro (And.intro @w_i32 @uh6) (And.intro @ugy @udz))
    (And.intro (And.intro @udc @run_fa) (And.intro @ui7 @ue7)))) (And.intro (And.intro (And.intro @nc_ptr (And.intro @ugm @nc_nil))
    (And.intro (And.intro @run_mi @run_pn) (And.intro @ui3 @ugn))) (And.intro (And.intro (And.intro @ugc @uiq) (And.intro @ue8
    @ues)) (And.intro (And.intro @uf6 @uba) (And.intro @u8f @ua7)))))) (And.intro (And.intro (And.intro (And.intro
    (And.intro @uaz (And.intro @ucm @ud9)) (And.intro (And.intro @u7z @u7p) (And.intro @u85 @u8d)))
    (And.intro (And.intro (And.intro @u8c @ueo) (And.intro @uae @u7w)) (And.intro (And.intro @uam @ubt) (And.intro
    @ucg @uik)))) (And.intro (And.intro (And.intro @ubr (And.intro @u8a @ua4)) (And.intro (And.intro @ubk
    @ub3) (And.intro @ugf @uai))) (And.intro (And.intro (And.intro @u8j @ubs) (And.intro @uc5 @uca))
    (And.intro (And.intro @ui8 @u91) (And.intro @u6x @u8x))))) (And.intro (And.intro (And.intro (And.intro @u8p
    (And.intro @u8y @udu)) (And.intro (And.intro @u7m @u5h) (And.intro @u6a @u7d))) (And.intro (And.intro
    (And.intro @u6b @uc4) (And.intro @uf9 @ubm)) (And.intro (And.intro @uee @ufg) (And.intro @uea @low_fn))))
    (And.intro (And.intro (And.intro @u7k (And.intro @u5i @u6o)) (And.intro (And.intro @u6e @u7i) (And.intro
    @ubq @u6g))) (And.intro (And.intro (And.intro @u5e @u7r) (And.intro @u69 @u77)) (And.intro
    (And.intro @u65 @u42) (And.intro @u3b @u43))))))) (And.intro (And.intro (And.intro (And.intro (And.intro
    (And.intro @u40 (And.intro @u41 @u5f)) (And.intro (And.intro @uc3 @u88) (And.intro @uc2
    @ucb))) (And.intro (And.intro (And.intro @ubb @uda) (And.intro @uap @u8z)) (And.intro (And.intro @uce
    @ucp) (And.intro @ubn @ugg)))) (And.intro (And.intro (And.intro @u74 (And.intro @u58 @u6s)) (And.intro
    (And.intro @u7q @u7b) (And.intro @uci @u9p))) (And.intro (And.intro (And.intro @u6l @ueh) (And.intro @run_bd
    @u6i)) (And.intro (And.intro @u57 @ub9) (And.intro @run_bs @ugw))))) (And.intro (And.intro (And.intro (And.intro
    @uhe (And.intro @udv @ue9)) (And.intro (And.intro @uau @u6q) (And.intro @u6h @u7n))) (And.intro
    (And.intro (And.intro @u78 @u5l) (And.intro @u5a @u4r)) (And.intro (And.intro @uan @u8m)
    (And.intro @ua8 @u7t)))) (And.intro (And.intro (And.intro @uc7 (And.intro @ubp @u7x)) (And.intro (And.intro
    @ub8 @u3y) (And.intro @u7a @ue2))) (And.intro (And.intro (And.intro @u6t @ubw) (And.intro @u87
    @u68)) (And.intro (And.intro @u8q @u5c) (And.intro @u8k @u86)))))) (And.intro (And.intro (And.intro
    (And.intro (And.intro @u82 (And.intro @u37 @u5m)) (And.intro (And.intro @uay @bi_add) (And.intro @bi_sub
    @bi_mul))) (And.intro (And.intro (And.intro @bi_eql @bi_neq) (And.intro @bi_lss @bi_leq)) (And.intro (And.intro @bi_gtr @bi_geq) (And.intro
    @uh4 @uhg)))) (And.intro (And.intro (And.intro @uhr (And.intro @uiv @un_not)) (And.intro (And.intro @ua6 @uih) (And.intro
    @mx_int @mn_int))) (And.intro (And.intro (And.intro @cv_int @Bool.and_true) (And.intro @Bool.true_and @Bool.and_self)) (And.intro (And.intro
    @Bool.not_true @Bool.not_false) (And.intro @Bool.and_false @Bool.false_and))))) (And.intro (And.intro (And.intro (And.intro @Bool.or_true
    (And.intro @Bool.or_false @Bool.true_or)) (And.intro (And.intro @Bool.false_or @Bool.false_eq_true) (And.intro @decide_eq_true_eq @and_self)))
    (And.intro (And.intro (And.intro @and_true @true_and) (And.intro @not_true_eq_false @not_false_eq_true)) (And.intro (And.intro @Nat.zero_add
    @Nat.add_zero) (And.intro @Nat.le_refl @Nat.lt_add_one)))) (And.intro (And.intro (And.intro (And.intro @Nat.lt_irrefl @and_false) (And.intro
    @false_and @Bool.not_eq_true')) (And.intro (And.intro @Bool.not_eq_eq_eq_not @decide_eq_false_iff_not) (And.intro @Bool.and_eq_true
    @Bool.or_eq_true))) (And.intro (And.intro (And.intro @decide_true @decide_false) (And.intro @u4o @u4h)) (And.intro (And.intro @u5o
    @u6j) (And.intro @u5r @u9z)))))))) := (And.intro (And.intro (And.intro (And.intro (And.intro (And.intro (And.intro @u90 (And.intro @uey @run_al)) (And.intro (And.intro @run_bx
    @run_ld) (And.intro @run_st @ufo))) (And.intro (And.intro (And.intro @ufl @ufb) (And.intro @uab @u7j)) (And.intro
    (And.intro @ldB_t @ldB_f) (And.intro @stB_is @ueg)))) (And.intro (And.intro (And.intro @uf0 (And.intro @u55 @u9d)) (And.intro
    (And.intro @u56 @u9f) (And.intro @uex @u9y))) (And.intro (And.intro (And.intro @u7h @set_set) (And.intro @u6y @cut0))
    (And.intro (And.intro @cut1 @cut2) (And.intro @cutA0 @cutA1))))) (And.intro (And.intro (And.intro (And.intro @cutA2 (And.intro @u44 @u2j))
    (And.intro (And.intro @w_i64 @w_u64) (And.intro @w_u8 @w_u32))) (And.intro (And.intro (And.intro @w_i32 @uh6) (And.intro @ugy @udz))
    (And.intro (And.intro @udc @run_fa) (And.intro @ui7 @ue7)))) (And.intro (And.intro (And.intro @nc_ptr (And.intro @ugm @nc_nil))
    (And.intro (And.intro @run_mi @run_pn) (And.intro @ui3 @ugn))) (And.intro (And.intro (And.intro @ugc @uiq) (And.intro @ue8
    @ues)) (And.intro (And.intro @uf6 @uba) (And.intro @u8f @ua7)))))) (And.intro (And.intro (And.intro (And.intro
    (And.intro @uaz (And.intro @ucm @ud9)) (And.intro (And.intro @u7z @u7p) (And.intro @u85 @u8d)))
    (And.intro (And.intro (And.intro @u8c @ueo) (And.intro @uae @u7w)) (And.intro (And.intro @uam @ubt) (And.intro
    @ucg @uik)))) (And.intro (And.intro (And.intro @ubr (And.intro @u8a @ua4)) (And.intro (And.intro @ubk
    @ub3) (And.intro @ugf @uai))) (And.intro (And.intro (And.intro @u8j @ubs) (And.intro @uc5 @uca))
    (And.intro (And.intro @ui8 @u91) (And.intro @u6x @u8x))))) (And.intro (And.intro (And.intro (And.intro @u8p
    (And.intro @u8y @udu)) (And.intro (And.intro @u7m @u5h) (And.intro @u6a @u7d))) (And.intro (And.intro
    (And.intro @u6b @uc4) (And.intro @uf9 @ubm)) (And.intro (And.intro @uee @ufg) (And.intro @uea @low_fn))))
    (And.intro (And.intro (And.intro @u7k (And.intro @u5i @u6o)) (And.intro (And.intro @u6e @u7i) (And.intro
    @ubq @u6g))) (And.intro (And.intro (And.intro @u5e @u7r) (And.intro @u69 @u77)) (And.intro
    (And.intro @u65 @u42) (And.intro @u3b @u43))))))) (And.intro (And.intro (And.intro (And.intro (And.intro
    (And.intro @u40 (And.intro @u41 @u5f)) (And.intro (And.intro @uc3 @u88) (And.intro @uc2
    @ucb))) (And.intro (And.intro (And.intro @ubb @uda) (And.intro @uap @u8z)) (And.intro (And.intro @uce
    @ucp) (And.intro @ubn @ugg)))) (And.intro (And.intro (And.intro @u74 (And.intro @u58 @u6s)) (And.intro
    (And.intro @u7q @u7b) (And.intro @uci @u9p))) (And.intro (And.intro (And.intro @u6l @ueh) (And.intro @run_bd
    @u6i)) (And.intro (And.intro @u57 @ub9) (And.intro @run_bs @ugw))))) (And.intro (And.intro (And.intro (And.intro
    @uhe (And.intro @udv @ue9)) (And.intro (And.intro @uau @u6q) (And.intro @u6h @u7n))) (And.intro
    (And.intro (And.intro @u78 @u5l) (And.intro @u5a @u4r)) (And.intro (And.intro @uan @u8m)
    (And.intro @ua8 @u7t)))) (And.intro (And.intro (And.intro @uc7 (And.intro @ubp @u7x)) (And.intro (And.intro
    @ub8 @u3y) (And.intro @u7a @ue2))) (And.intro (And.intro (And.intro @u6t @ubw) (And.intro @u87
    @u68)) (And.intro (And.intro @u8q @u5c) (And.intro @u8k @u86)))))) (And.intro (And.intro (And.intro
    (And.intro (And.intro @u82 (And.intro @u37 @u5m)) (And.intro (And.intro @uay @bi_add) (And.intro @bi_sub
    @bi_mul))) (And.intro (And.intro (And.intro @bi_eql @bi_neq) (And.intro @bi_lss @bi_leq)) (And.intro (And.intro @bi_gtr @bi_geq) (And.intro
    @uh4 @uhg)))) (And.intro (And.intro (And.intro @uhr (And.intro @uiv @un_not)) (And.intro (And.intro @ua6 @uih) (And.intro
    @mx_int @mn_int))) (And.intro (And.intro (And.intro @cv_int @Bool.and_true) (And.intro @Bool.true_and @Bool.and_self)) (And.intro (And.intro
    @Bool.not_true @Bool.not_false) (And.intro @Bool.and_false @Bool.false_and))))) (And.intro (And.intro (And.intro (And.intro @Bool.or_true
    (And.intro @Bool.or_false @Bool.true_or)) (And.intro (And.intro @Bool.false_or @Bool.false_eq_true) (And.intro @decide_eq_true_eq @and_self)))
    (And.intro (And.intro (And.intro @and_true @true_and) (And.intro @not_true_eq_false @not_false_eq_true)) (And.intro (And.intro @Nat.zero_add
    @Nat.add_zero) (And.intro @Nat.le_refl @Nat.lt_add_one)))) (And.intro (And.intro (And.intro (And.intro @Nat.lt_irrefl @and_false) (And.intro
    @false_and @Bool.not_eq_true')) (And.intro (And.intro @Bool.not_eq_eq_eq_not @decide_eq_false_iff_not) (And.intro @Bool.and_eq_true
    @Bool.or_eq_true))) (And.intro (And.intro (And.intro @decide_true @decide_false) (And.intro @u4o @u4h)) (And.intro (And.intro @u5o
    @u6j) (And.intro @u5r @u9z))))))))
theorem cr : (∀ {α : Type} {a : α} {l : List α}, (a :: l).length = l.length + 1) ∧ (∀ {α : Type}, ([] : List α).length = 0) ∧ (∀ {α β : Type} {f : α → β} {a : α} {l : List α}, (a :: l).map f = f a :: l.map f) ∧ (∀ {α β : Type} {f : α → β}, [].map f = []) ∧ (∀ {α : Type} {a : α} {l : List α} {i : Nat}, (a :: l).take (i + 1) = a :: l.take i) ∧ (∀ {α : Type} {l : List α}, l.take 0 = []) ∧ (∀ {α : Type} {a : α} {l : List α} {i : Nat}, (a :: l).drop (i + 1) = l.drop i) ∧ (∀ {α : Type} {l : List α}, l.drop 0 = l) ∧ (∀ {α : Type} {i : Nat}, ([] : List α).drop i = []) ∧ (∀ {α : Type} {i : Nat}, ([] : List α).take i = []) ∧ (∀ {α : Type} {a : α} {l k : List α}, a :: l ++ k = a :: (l ++ k)) ∧ (∀ {α : Type} {l : List α}, [] ++ l = l) ∧ (∀ {α : Type} {l : List α}, l ++ [] = l) ∧ (∀ {α : Type} {a b : α} {l : List α}, (a :: l).set 0 b = b :: l) ∧ (∀ {α : Type} {a b : α} {l : List α} {i : Nat}, (a :: l).set (i + 1) b = a :: l.set i b) ∧ (∀ {α : Type} {f : α → Bool} {a : α} {l : List α}, (a :: l).all f = (f a && l.all f)) ∧ (∀ {α : Type} {f : α → Bool}, [].all f = true) ∧ (∀ {a b : Int}, a ≥ b ↔ b ≤ a) ∧ (∀ {a b : Nat}, a ≥ b ↔ b ≤ a) ∧ (∀ {a b : Int}, a > b ↔ b < a) ∧ (∀ {a b : Nat}, a > b ↔ b < a) ∧ (∀ {α : Type} [BEq α] [ReflBEq α] {a : α}, (a == a) = true) ∧ (∀ {α : Type} [BEq α] [LawfulBEq α] {a b : α}, (a == b) = true ↔ a = b) ∧ (∀ {α : Type} [BEq α] [LawfulBEq α] {a b : α}, (a != b) = true ↔ a ≠ b) ∧ (∀ {α : Type} {a b : α}, (a ≠ b) = ¬ a = b) ∧ (∀ {α : Type} {p : Prop} [Decidable p] {x y : α}, (if ¬ p then x else y) = if p then y else x) ∧ (∀ {α : Type} {p : Prop} [Decidable p] {x : α}, (if p then x else x) = x) ∧ (∀ {α : Type} {a b : α}, (some a).getD b = a) ∧ (∀ {α : Type} {b : α}, (none : Option α).getD b = b) :=
  ⟨List.length_cons, List.length_nil, List.map_cons, List.map_nil, List.take_succ_cons, List.take_zero, List.drop_succ_cons, List.drop_zero, List.drop_nil, List.take_nil, List.cons_append, (List.nil_append _), (List.append_nil _), List.set_cons_zero, List.set_cons_succ, List.all_cons, List.all_nil, Iff.rfl, Iff.rfl, Iff.rfl, Iff.rfl, (beq_self_eq_true _), beq_iff_eq, bne_iff_ne, (ne_eq _ _), (ite_not _ _ _), (ite_self _), Option.getD_some, Option.getD_none⟩
end Go.Proofs.Ytjcffopjohkmaaa.Pi
namespace Go.Proofs.Ytjcffopjohkmaaa.Pi
variable {α β σ : Type} {c : Nat} {H : Heap}
def St (H : Heap) (c : Nat) (bx : Box) (L : List Box) : Heap := hadd (hset H c bx) L
def killR (c : Nat) : Option (Out α) → Option (Out α)
  | some (.pan v H) => some (.pan v (hset H c .dead))
  | r => r
def runK (c : Nat) (m : M α) (H : Heap) : Option (Out α) := killR c (run m H)
def bindK (c : Nat) (r : Option (Out α)) (f : α → M β) : Option (Out β) :=
  match r with
  | none => none
  | some (.ok v H) => runK c (f v) H
  | some (.pan v H) => some (.pan v H)
inductive Res (σ α : Type) where
  | ok (v : α) (s : σ)
  | err (t : TypeId) (l : List Int)
  | no
def fltP (t : TypeId) (l : List Int) : PV := .iface t (.agg (l.map (PV.int .i64)))
theorem ugt {t : TypeId} {l : List Int} : fltP t l = .iface t (.agg (l.map (PV.int .i64))) := nrfl rfl
theorem uaf {n : Nat} : ∀ l : List Int, lowL n (l.map (PV.int .i64)) = true
  | [] => u9p
  | a :: r => by rw [List.map_cons, u6l, ud9, uaf r]; rfl
theorem u9u {t : TypeId} {l : List Int} {n : Nat} : (fltP t l).low n = true := by
  unfold fltP
  rw [u65, uda]
  exact uaf l
def Res.bind {σ τ α β : Type} (r : Res σ α) (g : α → σ → Res τ β) : Res τ β :=
  match r with
  | .ok v s => g v s
  | .err t l => .err t l
  | .no => .no
def elimK {σ α γ : Type} (c : Nat) (H : Heap) (L : List Box) (r : Res σ α) (g : α → σ → Option (Out γ)) : Option (Out γ) :=
  match r with
  | .ok v s => g v s
  | .err t l => some (.pan (fltP t l) (St H c .dead L))
  | .no => none
def outK (c : Nat) (H : Heap) (L : List Box) (bx : σ → Box) (enc : α → PV) (r : Res σ α) : Option (Out PV) := elimK c H L r fun v s => some (.ok (enc v) (St H c (bx s) L))
def outS (c : Nat) (H : Heap) (L : List Box) (bx : σ → Box) (enc : α → PV) (r : α × σ) : Option (Out PV) := some (.ok (enc r.1) (St H c (bx r.2) L))
@[congr] theorem ukv {r r' : Option (Out α)} {f : α → M β} (h : r = r') : bindK c r f = bindK c r' f := by rw [h]
@[congr] theorem ul8 {σ α γ : Type} {L L' : List Box} {r r' : Res σ α} {g g' : α → σ → Option (Out γ)} (h : r = r') (hL : L = L') (hg : ∀ v s, r' = .ok v s → g v s = g' v s) : elimK c H L r g = elimK c H L' r' g' := by
  subst h hL
  cases r with
  | ok v s => exact hg v s rfl
  | err t l => rfl
  | no => rfl
theorem ugh {L : List Box} {bx : σ → Box} {enc : α → PV} {r : Res σ α} : outK c H L bx enc r = elimK c H L r fun v s => some (.ok (enc v) (St H c (bx s) L)) := nrfl rfl
theorem uhy {L : List Box} {bx : σ → Box} {enc : α → PV} {v : α} {s : σ} : outK c H L bx enc (.ok v s) = some (.ok (enc v) (St H c (bx s) L)) := nrfl rfl
theorem uer {L : List Box} {bx : σ → Box} {enc : α → PV} {t : TypeId} {l : List Int} : outK c H L bx enc (Res.err t l : Res σ α) = some (.pan (fltP t l) (St H c .dead L)) := nrfl rfl
theorem uhq {L : List Box} {bx : σ → Box} {enc : α → PV} : outK c H L bx enc (Res.no : Res σ α) = none := nrfl rfl
theorem ufd {γ : Type} {L : List Box} {g : α → σ → Option (Out γ)} : elimK c H L (Res.no : Res σ α) g = none := nrfl rfl
theorem ub5 {τ : Type} {β : Type} {L : List Box} {bx : σ → Box} {enc : α → PV} {r : Res τ β} {g : β → τ → Res σ α} : outK c H L bx enc (r.bind g) = elimK c H L r fun v s => outK c H L bx enc (g v s) := by cases r <;> rfl
theorem uen {L : List Box} {bx : σ → Box} {enc : α → PV} {p : Prop} [Decidable p] {r r' : Res σ α} : outK c H L bx enc (if p then r else r') = if p then outK c H L bx enc r else outK c H L bx enc r' := by split <;> rfl
theorem uek {γ : Type} {L : List Box} {v : α} {s : σ} {g : α → σ → Option (Out γ)} : elimK c H L (.ok v s) g = g v s := nrfl rfl
theorem ub1 {γ : Type} {L : List Box} {t : TypeId} {l : List Int} {g : α → σ → Option (Out γ)} : elimK c H L (Res.err t l : Res σ α) g = some (.pan (fltP t l) (St H c .dead L)) := nrfl rfl
theorem uc8 {γ : Type} {L : List Box} {p : Prop} [Decidable p] {r r' : Res σ α} {g : α → σ → Option (Out γ)} : elimK c H L (if p then r else r') g = if p then elimK c H L r g else elimK c H L r' g := by split <;> rfl
theorem u7v {γ τ β : Type} {L : List Box} {r : Res τ β} {f : β → τ → Res σ α} {g : α → σ → Option (Out γ)} : elimK c H L (r.bind f) g = elimK c H L r fun v s => elimK c H L (f v s) g := by cases r <;> rfl
theorem ufm {v : α} : killR c (some (.ok v H)) = some (.ok v H) := nrfl rfl
theorem u8v : killR c (none : Option (Out α)) = none := nrfl rfl
theorem u73 {v : PV} : killR c (some (.pan v H) : Option (Out α)) = some (.pan v (hset H c .dead)) := nrfl rfl
theorem ucj {p : Prop} [Decidable p] {r r' : Option (Out α)} : killR c (if p then r else r') = if p then killR c r else killR c r' := by split <;> rfl
theorem uag {m : M α} {f : α → M β} : runK c (M.bind m f) H = bindK c (runK c m H) f := by
  unfold runK
  rw [run_bind]
  cases run m H with
  | none => rfl
  | some q => cases q <;> rfl
theorem uf1 {f : α → M β} {v : α} : bindK c (some (.ok v H)) f = runK c (f v) H := nrfl rfl
theorem u8o {f : α → M β} : bindK c none f = none := nrfl rfl
theorem ub7 {f : α → M β} {v : PV} : bindK c (some (.pan v H)) f = some (.pan v H) := nrfl rfl
theorem ubi {p : Prop} [Decidable p] {r r' : Option (Out α)} {f : α → M β} : bindK c (if p then r else r') f = if p then bindK c r f else bindK c r' f := by split <;> rfl
theorem u94 {L : List Box} {r : Res σ α} {g : α → σ → Option (Out PV)} {f : PV → M β} : bindK c (elimK c H L r g) f = elimK c H L r fun v s => bindK c (g v s) f := by cases r <;> rfl
noncomputable def nbK (c : Nat) (H : Heap) (r : Option (Out α)) (f : α → M β) : Option (Out β) := killR c (nbR H r f)
@[congr] theorem uly {r r' : Option (Out α)} {f : α → M β} (h : r = r') : nbK c H r f = nbK c H r' f := by rw [h]
theorem uif {m : M α} {f : α → M β} : runK c (nb m f) H = nbK c H (runK c m H) f := by
  unfold nbK runK nbR run nb killR
  dsimp only
  cases m H with
  | none => rfl
  | some q => cases q <;> rfl
theorem nbK_ok {f : α → M β} {v : α} : nbK c H (some (.ok v H)) f = runK c (f v) H := by
  unfold nbK
  rw [nbR_ok]
  rfl
theorem uep {f : α → M β} : nbK c H none f = none := by
  unfold nbK nbR nb
  rfl
theorem uj2 {p : Prop} [Decidable p] {r r' : Option (Out α)} {f : α → M β} : nbK c H (if p then r else r') f = if p then nbK c H r f else nbK c H r' f := by split <;> rfl
theorem ufp {m : M PV} (hc : c < List.length H) : runK c (trunc m) H = truncR H (runK c m H) := by
  unfold runK
  rw [u6p]
  cases run m H with
  | none => rfl
  | some q => cases q with
    | ok v K => rfl
    | pan v K =>
      show killR c (bif v.low H.length then some (Out.pan v (hcut K H.length)) else none) = (bif v.low H.length then some (Out.pan v (hcut (hset K c .dead) H.length)) else none)
      cases v.low H.length with
      | false => rfl
      | true =>
        simp only [cond_true, u73, Option.some.injEq, Out.pan.injEq, true_and]
        unfold hset hcut
        rw [List.take_set]
theorem u84 {p : Bool} {m : M α} : runK c (guardM p m) H = if p = true then runK c m H else none := by cases p <;> rfl
theorem ub4 {v : PV} {m : M PV} : runK c (resT v m) H = if isTup v = true then none else runK c m H := by unfold resT; cases isTup v <;> rfl
theorem uaw {p : Bool} {x y : M α} : runK c (condM (.bool p) x y) H = if p = true then runK c x H else runK c y H := by cases p <;> rfl
theorem udt {p : Bool} {m : M PV} : runK c (gd (.bool p) true m) H = if p = true then runK c m H else some (.ok (.tup []) H) := by cases p <;> rfl
theorem uff {p : Bool} {m : M PV} : runK c (gd (.bool p) false m) H = if p = true then some (.ok (.tup []) H) else runK c m H := by cases p <;> rfl
theorem ue4 {b : Bool} {m : M PV} : runK c (gd (.tup []) b m) H = some (.ok (.tup []) H) := nrfl rfl
theorem ucn {v : α} : runK c (M.pure v) H = some (.ok v H) := nrfl rfl
theorem ufe {v : PV} : runK c (M.pan v : M α) H = some (.pan v (hset H c .dead)) := nrfl rfl
theorem uad : runK c (M.fail : M α) H = none := nrfl rfl
theorem u8w {m : M PV} : runK c (noPan m) H = noPanR (run m H) := by
  unfold runK
  rw [u6z]
  cases run m H with
  | none => rfl
  | some q => cases q <;> rfl
noncomputable def chkK (c : Nat) (r r' : Option (Out α)) (x : M β) (H : Heap) : Option (Out β) := killR c (chkR r r' x H)
@[congr] theorem ulv {r r' s s' : Option (Out α)} {x : M β} (h : r = s) (h' : r' = s') : chkK c r r' x H = chkK c s s' x H := by rw [h, h']
theorem uf5 {m m' : M α} {x : M β} : runK c (chk m m' x) H = chkK c (run m H) (run m' H) x H := nrfl rfl
theorem ugb {a : α} {K : Heap} {x : M β} : chkK c (some (.ok a K)) (some (.ok a K)) x H = runK c x H := by
  unfold chkK
  rw [ud4]
  rfl
theorem uco {r : Option (Out α)} {x : M β} : chkK c none r x H = none := by
  unfold chkK chkR run chk
  rfl
theorem uf4 {p : Prop} [Decidable p] {r r' s : Option (Out α)} {x : M β} : chkK c (if p then r else r') s x H = if p then chkK c r s x H else chkK c r' s x H := by split <;> rfl
theorem ucf {r : Option (Out α)} {x : M β} : chkR none r x H = none := by
  unfold chkR run chk
  rfl
theorem udw {p : Prop} [Decidable p] {r r' s : Option (Out α)} {x : M β} : chkR (if p then r else r') s x H = if p then chkR r s x H else chkR r' s x H := by split <;> rfl
section
variable {n : Nat} {id o : Nat} {x y v i : PV} {cs : List PV} {m : Option Nat} {mv b : Bool} {L : List Box}
theorem ugq : runK c (al cs) H = killR c (run (al cs) H) := nrfl rfl
theorem ui1 : runK c (bx n v) H = killR c (run (bx n v) H) := nrfl rfl
theorem uiy : runK c (ld m mv v) H = killR c (run (ld m mv v) H) := nrfl rfl
theorem uii : runK c (st n mv x v) H = killR c (run (st n mv x v) H) := nrfl rfl
theorem uej : runK c (iaS n x i) H = killR c (run (iaS n x i) H) := nrfl rfl
theorem uf7 {len : Nat} : runK c (ixA len n m x i) H = killR c (run (ixA len n m x i) H) := nrfl rfl
theorem ubh : runK c (pick v x y) H = killR c (run (pick v x y) H) := nrfl rfl
theorem uhj {t : TypeId} : runK c (mi t v) H = killR c (run (mi t v) H) := nrfl rfl
theorem uie {t : FuncId} {l l' : List PV} : runK c (mf t l l') H = killR c (run (mf t l l') H) := nrfl rfl
theorem uh5 {z : List PV} {ps : List (Nat × Nat × PV)} : runK c (bd z ps) H = killR c (run (bd z ps) H) := nrfl rfl
theorem uh0 {l : List PV} : runK c (bs b m l) H = killR c (run (bs b m l) H) := nrfl rfl
theorem uio {k : Nat} : runK c (ap b n k x y) H = killR c (run (ap b n k x y) H) := nrfl rfl
theorem uge {k : Nat} : runK c (mk b n k x y) H = killR c (run (mk b n k x y) H) := nrfl rfl
theorem uf3 : runK c (lnS x) H = killR c (run (lnS x) H) := nrfl rfl
theorem ufh : runK c (lnL x) H = killR c (run (lnL x) H) := nrfl rfl
theorem ue0 : runK c (ixS x i) H = killR c (run (ixS x i) H) := nrfl rfl
theorem udp {lo hi : Option PV} : runK c (slS x lo hi) H = killR c (run (slS x lo hi) H) := nrfl rfl
theorem ufj {lo hi : Option PV} : runK c (slL n x lo hi) H = killR c (run (slL n x lo hi) H) := nrfl rfl
theorem uj4 {k : Cv} : runK c (cv k b x) H = killR c (run (cv k b x) H) := nrfl rfl
theorem uj6 : runK c (ex n x) H = killR c (run (ex n x) H) := nrfl rfl
theorem uib {op : BinOp} {ek : EqK} : runK c (bi op ek x y) H = killR c (run (bi op ek x y) H) := nrfl rfl
theorem len_St {x : Box} : List.length (St H c x L) = List.length H + List.length L := by unfold St; rw [u44, u2j]
theorem get_St {x : Box} (hc : c < List.length H) : hget (St H c x L) c = some x := by unfold St; rw [u5r hc, u7h hc]
theorem ugo {x : Box} (k : Nat) : hget (St H c x L) (List.length H + k) = nth L k := u4o k
theorem ue5 {x : Box} : hget (St H c x L) (List.length H) = nth L 0 := u4h
theorem set_St {x y : Box} (hc : c < List.length H) : hset (St H c x L) c y = St H c y L := by unfold St; rw [u9z hc, set_set]
theorem uhk {x y : Box} (k : Nat) : hset (St H c x L) (List.length H + k) y = St H c x (L.set k y) := u5o k
theorem uf2 {x y : Box} : hset (St H c x L) (List.length H) y = St H c x (L.set 0 y) := u6j
theorem add_St {x : Box} {K : List Box} : hadd (St H c x L) K = St H c x (L ++ K) := u6y
theorem cut_St {x : Box} : hcut (St H c x L) (List.length H) = St H c x [] := by
  unfold St
  rw [cutA1]
  exact (List.append_nil _).symm
theorem u67 {r : Res σ α} {bx : Box} {g : α → σ → Option (Out PV)} : truncR (St H c bx []) (elimK c H L r g) = elimK c H [] r fun v s => truncR (St H c bx []) (g v s) := by
  cases r with
  | ok v s => rfl
  | err t l =>
    show truncR (St H c bx []) (some (Out.pan (fltP t l) (St H c .dead L))) = some (Out.pan (fltP t l) (St H c .dead []))
    rw [u4y, if_pos u9u, len_St, List.length_nil, Nat.add_zero, cut_St]
  | no => rfl
theorem u70 {m : M PV} {x : Box} (hc : c < List.length H) : runK c (trunc m) (St H c x L) = truncR (St H c x L) (runK c m (St H c x L)) := ufp (by rw [len_St]; omega)
theorem ugs {bx : σ → Box} {enc : α → PV} {v : α} {s : σ} : outS c H L bx enc (v, s) = some (.ok (enc v) (St H c (bx s) L)) := nrfl rfl
theorem ugp {bx : σ → Box} {enc : α → PV} {r : α × σ} {f : PV → M β} : bindR (outS c H L bx enc r) f = run (f (enc r.1)) (St H c (bx r.2) L) := nrfl rfl
end
end Go.Proofs.Ytjcffopjohkmaaa.Pi
namespace Go.Proofs.Ytjcffopjohkmaaa.Pi
theorem kDown : type_of% (And.intro (And.intro (And.intro (And.intro (And.intro @uhy @uer) (And.intro @uhq (And.intro @ufd @ub5))) (And.intro
    (And.intro @uen @uek) (And.intro @ub1 (And.intro @uc8 @u7v)))) (And.intro (And.intro (And.intro @ufm @u8v)
    (And.intro @u73 (And.intro @ucj @uag))) (And.intro (And.intro @uf1 (And.intro @u8o @ub7)) (And.intro @ubi
    (And.intro @u94 @u67))))) (And.intro (And.intro (And.intro (And.intro @uif @nbK_ok) (And.intro @uep (And.intro @uj2
    @u70))) (And.intro (And.intro @u84 (And.intro @ub4 @uaw)) (And.intro @udt (And.intro @uff @ue4))))
    (And.intro (And.intro (And.intro @ucn @ufe) (And.intro @uad (And.intro @u8w @uf5))) (And.intro (And.intro @ugb
    (And.intro @uco @uf4)) (And.intro @ucf (And.intro @udw @ugp)))))) := (And.intro (And.intro (And.intro (And.intro (And.intro @uhy @uer) (And.intro @uhq (And.intro @ufd @ub5))) (And.intro
    (And.intro @uen @uek) (And.intro @ub1 (And.intro @uc8 @u7v)))) (And.intro (And.intro (And.intro @ufm @u8v)
    (And.intro @u73 (And.intro @ucj @uag))) (And.intro (And.intro @uf1 (And.intro @u8o @ub7)) (And.intro @ubi
    (And.intro @u94 @u67))))) (And.intro (And.intro (And.intro (And.intro @uif @nbK_ok) (And.intro @uep (And.intro @uj2
    @u70))) (And.intro (And.intro @u84 (And.intro @ub4 @uaw)) (And.intro @udt (And.intro @uff @ue4))))
    (And.intro (And.intro (And.intro @ucn @ufe) (And.intro @uad (And.intro @u8w @uf5))) (And.intro (And.intro @ugb
    (And.intro @uco @uf4)) (And.intro @ucf (And.intro @udw @ugp))))))
theorem kUp : type_of% (And.intro (And.intro (And.intro (And.intro (And.intro @ugh @ugs) (And.intro @ugt @u9u)) (And.intro (And.intro @ugq @ui1)
    (And.intro @uiy @uii))) (And.intro (And.intro (And.intro @uej @uf7) (And.intro @ubh @uhj)) (And.intro (And.intro
    @uie @uh5) (And.intro @uh0 (And.intro @uio @uge))))) (And.intro (And.intro (And.intro (And.intro @uf3 @ufh)
    (And.intro @ue0 @udp)) (And.intro (And.intro @ufj @uj4) (And.intro @uj6 @uib))) (And.intro (And.intro (And.intro @len_St
    @get_St) (And.intro @ugo @ue5)) (And.intro (And.intro @set_St @uhk) (And.intro @uf2 (And.intro @add_St @cut_St)))))) := (And.intro (And.intro (And.intro (And.intro (And.intro @ugh @ugs) (And.intro @ugt @u9u)) (And.intro (And.intro @ugq @ui1)
    (And.intro @uiy @uii))) (And.intro (And.intro (And.intro @uej @uf7) (And.intro @ubh @uhj)) (And.intro (And.intro
    @uie @uh5) (And.intro @uh0 (And.intro @uio @uge))))) (And.intro (And.intro (And.intro (And.intro @uf3 @ufh)
    (And.intro @ue0 @udp)) (And.intro (And.intro @ufj @uj4) (And.intro @uj6 @uib))) (And.intro (And.intro (And.intro @len_St
    @get_St) (And.intro @ugo @ue5)) (And.intro (And.intro @set_St @uhk) (And.intro @uf2 (And.intro @add_St @cut_St))))))
end Go.Proofs.Ytjcffopjohkmaaa.Pi
namespace Go.Proofs.Ytjcffopjohkmaaa.Pi
variable {α β : Type} {H : Heap}
noncomputable def chkAR (r2 r1 : Option (Out Env)) (x : M β) (H : Heap) : Option (Out β) := run (chkA (fun _ => r2) (fun _ => r1) x) H
@[congr] theorem ulo {r r' s s' : Option (Out Env)} {x : M β} (h : r = s) (h' : r' = s') : chkAR r r' x H = chkAR s s' x H := by rw [h, h']
end Go.Proofs.Ytjcffopjohkmaaa.Pi
namespace Go.Proofs.Ytjcffopjohkmaaa.Pi
variable {H K : Heap} {k : IntKind} {n : Int} {v : PV}
noncomputable def u24 (H : Heap) (r : Option (Out PV)) : Option (Out PV) := truncE (fun _ => r) H
theorem u1c {m : M PV} : run (truncE m) H = u24 H (run m H) := nrfl rfl
@[congr] theorem ukd {r r' : Option (Out PV)} (h : r = r') : u24 H r = u24 H r' := by rw [h]
open Classical in
theorem u2p : u24 H (some (.ok v K)) = some (.ok v (if v.low H.length = true ∧ hcut K H.length = H then H else K)) := by
  unfold u24 truncE hcut
  rfl
theorem ud5 (h : hcut K H.length = H) (hv : v.low H.length = true) : u24 H (some (.ok v K)) = some (.ok v H) := by
  rw [u2p, if_pos ⟨hv, h⟩]
theorem ucx (hv : v.low H.length = false) : u24 H (some (.ok v K)) = some (.ok v K) := by
  rw [u2p, if_neg (fun h => by rw [hv] at h; cases h.1)]
theorem udn (h : hcut K H.length ≠ H) : u24 H (some (.ok v K)) = some (.ok v K) := by
  rw [u2p, if_neg (fun h' => h h'.2)]
theorem u31 : ∃ K', u24 H (some (.ok v K)) = some (.ok v K') := by
  rw [u2p]
  exact ⟨_, rfl⟩
theorem ull {m : Nat} {mv : Bool} {id o : Nat} {cs : List PV} (h : hget H id = some (.cells cs)) (h1 : v.cells.length = m) (h2 : o + m ≤ cs.length) (h3 : v.cells.all isCell = true) :
    run (stG true m mv (.ptr id o) v) H = some (.ok .undef (hset H id (.cells (fillAt o (if mv = true then v.cells else v.cells.map stripC) cs)))) := by
  unfold run stG
  have h : H[id]? = some (.cells cs) := h
  dsimp only
  rw [h]
  dsimp only
  rw [h1, beq_self_eq_true, decide_eq_true h2, h3]
  cases mv <;> rfl
theorem uky {P : Program} {t : TypeId} {i : TypeInfo} {z : Value} (h : P.info? t = some i) (hz : i.zero = some z) : run (alZ P t) H = some (.ok (.ptr H.length 0) (hadd H [.cells (okC (ofV z).cells)])) := by
  unfold run alZ
  rw [h]
  simp only [Option.bind_some, hz]
  rfl
theorem ule {id off sz m : Nat} (h0 : 0 ≤ n) (h1 : n < m) : run (iaS sz (.win id off sz m) (.int k n)) H = some (.ok (.ptr id (off + n.toNat * sz)) H) := by
  unfold run iaS
  simp only [decide_eq_true h0, decide_eq_true h1, beq_self_eq_true, Bool.and_self, cond_true]
  rfl
theorem uhb {id off sz m : Nat} : lnL (.win id off sz m) = M.pure (.int .i64 m) := nrfl rfl
theorem uka {p : PV} (h : isCell p = true) : run (bsL 1 [p]) H = some (.ok (.lit 1 1 [stripC p]) H) := by
  have e : p.cells = [p] := by cases p <;> first | rfl | simp [isCell] at h
  unfold run bsL
  simp only [List.all_cons, List.all_nil, e, h, List.length_cons, List.length_nil, Bool.and_true, List.flatMap_cons, List.flatMap_nil, List.append_nil, List.map_cons, List.map_nil]
  rfl
theorem ulr {own : Bool} {a : Option Nat} {sz b sx m : Nat} {cs : List PV} (h0 : m ≠ 0) (hg : growB b m = true) : run (apL own a sz b true (.slice false true sx []) (.lit sz m cs)) H = some (.ok (.win H.length 0 sz m) (hadd H [.cells cs])) := by
  unfold run
  show pushW sz b (.slice false true sx []) (.lit sz m cs) H = _
  unfold pushW u3u
  have : (m == 0) = false := by simpa using h0
  simp only [beq_self_eq_true, cond_true, this, cond_false, hg]
  rfl
theorem ukt {own nw : Bool} {a : Option Nat} {id sz b n0 m : Nat} {cs ds : List PV} (h : hget H id = some (.cells ds)) (hl : n0 * sz ≤ ds.length) (hg : growB b (n0 + m) = true) :
    run (apL own a sz b nw (.win id 0 sz n0) (.lit sz m cs)) H = some (.ok (.win H.length 0 sz (n0 + m)) (hadd (hset H id .dead) [.cells (ds.take (n0 * sz) ++ cs)])) := by
  unfold run
  show pushW sz b (.win id 0 sz n0) (.lit sz m cs) H = _
  unfold pushW u3u
  have h : H[id]? = some (.cells ds) := h
  simp only [beq_self_eq_true, cond_true, h, decide_eq_true hl, hg, Bool.and_self]
  rfl
theorem ua5 {a b c d : Nat} : isTup (.win a b c d) = false := nrfl rfl
theorem uak {a b c d : Nat} : strip (.win a b c d) = .win a b c d := nrfl rfl
theorem u92 {a b c d : Nat} : stripC (.win a b c d) = .win a b c d := nrfl rfl
theorem u50 {i o : Nat} : run (bi .eql .ptr (.ptr i o) .nil) H = some (.ok (.bool false) H) := nrfl rfl
theorem uir {i o : Nat} : run (bi .neq .ptr (.ptr i o) .nil) H = some (.ok (.bool true) H) := nrfl rfl
theorem u48 {b : Bool} : run (un .not (.bool b)) H = some (.ok (.bool (!b)) H) := nrfl rfl
theorem uld {len sz id o : Nat} (h0 : 0 ≤ n) (h1 : n < len) : run (iaA len sz (.ptr id o) (.int k n)) H = some (.ok (.ptr id (o + n.toNat * sz)) H) := by
  unfold run iaA
  simp only [decide_eq_true h0, decide_eq_true h1, Bool.and_self, cond_true]
  rfl
end Go.Proofs.Ytjcffopjohkmaaa.Pi
namespace Go.Proofs.Ytjcffopjohkmaaa.Pi.Q
open Go Go.Proofs.Ytjcffopjohkmaaa.Pi
noncomputable abbrev P : Program := Try.prog
noncomputable abbrev X : ExtT := fun _ => none
noncomputable abbrev C := callW P X
noncomputable abbrev CD := callDW P X
abbrev u0u : FuncId := 4
abbrev u1k : FuncId := 5
abbrev u0m : FuncId := 6
abbrev u0r : FuncId := 7
abbrev u0h : FuncId := 8
abbrev u07 : FuncId := 10
abbrev u0s : FuncId := 11
abbrev u0n : FuncId := 12
abbrev u15 : FuncId := 13
abbrev u0a : FuncId := 14
abbrev u0v : FuncId := 15
abbrev u0y : FuncId := 16
abbrev u46 : FuncId := 17
end Go.Proofs.Ytjcffopjohkmaaa.Pi.Q
namespace Go.Proofs.Ytjcffopjohkmaaa.Pi.Q
open Go Go.Proofs.Ytjcffopjohkmaaa.Pi
theorem u0i (a0 a1 a2 a3 : PV) : C u0u [a0, a1, a2, a3] =
 truncE (M.bind (bd [(.bool false), (.int .u64 0), (.int .u64 0), (.bool false)] [(1, 1, (.int .u64 1))]) fun t21_0 =>
 M.bind (C u1k [(strip t21_0), (.int .u64 1)]) fun t22_1 =>
 M.bind (ex 0 t22_1) fun t23_2 =>
 M.bind (ex 1 (tupDrop 0 t22_1)) fun t24_3 =>
 M.bind (bi .eql .ptr (strip t23_2) .nil) fun t26_4 =>
 M.bind (gd (strip t26_4) false (M.pure (strip t23_2))) fun t28_5 =>
 M.bind (gd (strip t26_4) false (M.pure (strip a1))) fun t29_6 =>
 M.bind (gd (strip t26_4) false (cv (.int .u64) true t29_6)) fun t30_7 =>
 M.bind (gd (strip t26_4) false (M.pure (strip a0))) fun t31_8 =>
 M.bind (gd (strip t26_4) false (C u0h [(strip t28_5), (strip t30_7), (strip t31_8)])) fun t32_9 =>
 M.bind (gd (strip t26_4) false (bi .neq .none t32_9 (.int .i64 0))) fun t33_10 =>
 M.bind (pick (strip t26_4) (.bool true) t33_10) fun t34_11 =>
 condM t34_11
 (M.bind (bi .neq .ptr (strip t23_2) .nil) fun t36_12 =>
 M.bind (gd (strip t36_12) true (C u0m [])) fun t38_13 =>
 M.bind (pick (strip t36_12) t38_13 (.bool false)) fun t39_14 =>
 resT t39_14 (M.pure t39_14))
 (M.bind (cv (.int .u64) true (strip a1)) fun t41_15 =>
 M.bind (cv (.int .u64) true (strip a2)) fun t43_16 =>
 M.bind (cv (.int .u64) true (strip a3)) fun t45_17 =>
 M.bind (lnL (strip a0)) fun t47_18 =>
 M.bind (cv (.int .u64) true t47_18) fun t48_19 =>
 M.bind (mn t45_17 t48_19) fun t49_20 =>
 M.bind (C u07 [(strip (strip t23_2)), (.int .u64 0), (.int .u64 65536)]) fun t52_21 =>
 M.bind (ex 0 t52_21) fun t53_22 =>
 M.bind (ex 1 (tupDrop 0 t52_21)) fun t54_23 =>
 M.bind (C u0s [(strip (strip t23_2)), (strip (strip t41_15)), (strip (strip t23_2)), (strip (strip t41_15)), (strip (strip t49_20))]) fun t60_24 =>
 M.bind (bi .neq .none t60_24 (.int .i64 0)) fun t61_25 =>
 condM t61_25
 (M.pure (.bool false))
 (M.bind (C u07 [(strip (strip t23_2)), (.int .u64 0), (.int .u64 65536)]) fun t64_26 =>
 M.bind (ex 0 t64_26) fun t65_27 =>
 M.bind (ex 1 (tupDrop 0 t64_26)) fun t66_28 =>
 M.bind (cv .bytesToStr true (strip t53_22)) fun t68_29 =>
 M.bind (cv .bytesToStr true (strip t65_27)) fun t70_30 =>
 M.bind (bi .neq .none t68_29 t70_30) fun t71_31 =>
 condM t71_31
 (M.pure (.bool false))
 (M.bind (bi .add .none (strip t43_16) (strip t49_20)) fun t74_32 =>
 M.bind (bi .gtr .none t74_32 (.int .u64 65536)) fun t75_33 =>
 M.bind (gd (strip t75_33) false (M.pure (strip t41_15))) fun t77_34 =>
 M.bind (gd (strip t75_33) false (M.pure (strip t43_16))) fun t78_35 =>
 M.bind (gd (strip t75_33) false (M.pure (strip t49_20))) fun t79_36 =>
 M.bind (gd (strip t75_33) false (bi .add .none t78_35 t79_36)) fun t80_37 =>
 M.bind (gd (strip t75_33) false (bi .lss .none t77_34 t80_37)) fun t81_38 =>
 M.bind (gd (strip t75_33) false (M.pure (strip t81_38))) fun t82_39 =>
 M.bind (gd t82_39 true (M.pure (strip t43_16))) fun t83_40 =>
 M.bind (gd t82_39 true (M.pure (strip t41_15))) fun t84_41 =>
 M.bind (gd t82_39 true (M.pure (strip t49_20))) fun t85_42 =>
 M.bind (gd t82_39 true (bi .add .none t84_41 t85_42)) fun t86_43 =>
 M.bind (gd t82_39 true (bi .lss .none t83_40 t86_43)) fun t87_44 =>
 M.bind (gd (strip t75_33) false (pick t82_39 t87_44 (.bool false))) fun t88_45 =>
 M.bind (pick (strip t75_33) (.bool true) t88_45) fun t89_46 =>
 condM t89_46
 (M.bind (C u0m []) fun t90_47 =>
 resT t90_47 (M.pure t90_47))
 (M.bind (C u0s [(strip (strip t23_2)), (strip (strip t43_16)), (strip (strip t23_2)), (strip (strip t41_15)), (strip (strip t49_20))]) fun t96_48 =>
 M.bind (bi .neq .none t96_48 (.int .i64 0)) fun t97_49 =>
 M.bind (gd (strip t97_49) false (M.pure (strip t23_2))) fun t99_50 =>
 M.bind (gd (strip t97_49) false (M.pure (strip t41_15))) fun t100_51 =>
 M.bind (gd (strip t97_49) false (M.pure (strip t49_20))) fun t101_52 =>
 M.bind (gd (strip t97_49) false (C u0n [(strip t99_50), (strip t100_51), (.int .u8 0), (strip t101_52)])) fun t102_53 =>
 M.bind (gd (strip t97_49) false (bi .neq .none t102_53 (.int .i64 0))) fun t103_54 =>
 M.bind (pick (strip t97_49) (.bool true) t103_54) fun t104_55 =>
 M.bind (gd (strip t104_55) false (M.pure (strip t23_2))) fun t106_56 =>
 M.bind (gd (strip t104_55) false (M.pure (strip t41_15))) fun t107_57 =>
 M.bind (gd (strip t104_55) false (M.pure (strip t23_2))) fun t108_58 =>
 M.bind (gd (strip t104_55) false (M.pure (strip t43_16))) fun t109_59 =>
 M.bind (gd (strip t104_55) false (M.pure (strip t49_20))) fun t110_60 =>
 M.bind (gd (strip t104_55) false (C u0s [(strip t106_56), (strip t107_57), (strip t108_58), (strip t109_59), (strip t110_60)])) fun t111_61 =>
 M.bind (gd (strip t104_55) false (bi .neq .none t111_61 (.int .i64 0))) fun t112_62 =>
 M.bind (pick (strip t104_55) (.bool true) t112_62) fun t113_63 =>
 condM t113_63
 (M.pure (.bool false))
 (M.bind (C u07 [(strip (strip t23_2)), (strip (strip t41_15)), (strip (strip t49_20))]) fun t118_64 =>
 M.bind (ex 0 t118_64) fun t119_65 =>
 M.bind (ex 1 (tupDrop 0 t118_64)) fun t120_66 =>
 M.bind (noPan (M.pure (strip t120_66))) fun t121_82 =>
 M.bind (noPan (bi .eql .none t121_82 (.int .i64 0))) fun t122_83 =>
 M.bind (noPan (M.pure (strip t122_83))) fun t123_84 =>
 M.bind (noPan (gd t123_84 true (M.pure (strip t119_65)))) fun t124_85 =>
 M.bind (noPan (gd t123_84 true (cv .bytesToStr true t124_85))) fun t125_86 =>
 M.bind (noPan (gd t123_84 true (M.pure (strip a0)))) fun t126_87 =>
 M.bind (noPan (gd t123_84 true (M.pure (strip t49_20)))) fun t127_88 =>
 M.bind (noPan (gd t123_84 true (slL 1 t126_87 none (some t127_88)))) fun t128_89 =>
 M.bind (noPan (gd t123_84 true (cv .bytesToStr true t128_89))) fun t129_90 =>
 M.bind (noPan (gd t123_84 true (bi .eql .none t125_86 t129_90))) fun t130_91 =>
 M.bind (noPan (pick t123_84 t130_91 (.bool false))) fun t131_92 =>
 M.bind (noPan (M.pure (strip t131_92))) fun t132_93 =>
 M.bind (noPan (gd t132_93 true (C u0m []))) fun t133_94 =>
 M.bind (noPan (pick t132_93 t133_94 (.bool false))) fun t134_95 =>
 M.bind (noPan (M.pure t134_95)) fun t8_96 =>
 resT t8_96 (M.pure t8_96))))))) := by
 rw [C, u19 _ _ rfl]; kernel_rfl
theorem u9s (a0 a1 : PV) : C u1k [a0, a1] =
 truncE (M.bind (bx 4 a0) fun t2_0 =>
 M.bind (fa 1 t2_0) fun t7_1 =>
 M.bind (ld none false t7_1) fun t8_2 =>
 M.bind (bi .gtr .none t8_2 (strip a1)) fun t10_3 =>
 M.bind (gd (strip t10_3) false (fa 1 t2_0)) fun t12_4 =>
 M.bind (gd (strip t10_3) false (ld none false t12_4)) fun t13_5 =>
 M.bind (gd (strip t10_3) false (bi .gtr .none t13_5 (.int .u64 64))) fun t14_6 =>
 M.bind (pick (strip t10_3) (.bool true) t14_6) fun t15_7 =>
 condM t15_7
 (M.pure (.tup [.nil, (.int .i64 211)]))
 (M.bind (fa 3 t2_0) fun t16_8 =>
 M.bind (ld none false t16_8) fun t17_9 =>
 M.bind (gd (strip t17_9) true (fa 2 t2_0)) fun t19_10 =>
 M.bind (gd (strip t17_9) true (ld none false t19_10)) fun t20_11 =>
 M.bind (gd (strip t17_9) true (fa 1 t2_0)) fun t21_12 =>
 M.bind (gd (strip t17_9) true (ld none false t21_12)) fun t22_13 =>
 M.bind (gd (strip t17_9) true (bi .lss .none t20_11 t22_13)) fun t23_14 =>
 M.bind (pick (strip t17_9) t23_14 (.bool false)) fun t24_15 =>
 condM t24_15
 (M.pure (.tup [.nil, (.int .i64 1)]))
 (M.bind (ld (some 4) false t2_0) fun t25_16 =>
 M.bind (bd [(.bool false), (.bool false), (.int .u64 0), (.int .u64 0), (.bool false), (.slice false true 0 [])] [(0, 1, (.bool true)), (1, 4, t25_16)]) fun t26_17 =>
 M.bind (bx 6 t26_17) fun t27_18 =>
 M.bind (fa 1 t2_0) fun t29_19 =>
 M.bind (ld none false t29_19) fun t30_20 =>
 M.bind (C u15 [(strip (strip t27_18)), (strip t30_20)]) fun t31_21 =>
 resT t27_18 (M.pure (.tup [t27_18, (.int .i64 0)]))))) := by
 rw [C, u19 _ _ rfl]; kernel_rfl
theorem u38 : C u0m [] =
 truncE (M.bind (bd [(.bool false), (.int .u64 0), (.int .u64 0), (.bool false)] [(1, 1, (.int .u64 1))]) fun t4_0 =>
 M.bind (C u1k [(strip t4_0), (.int .u64 1)]) fun t5_1 =>
 M.bind (ex 0 t5_1) fun t6_2 =>
 M.bind (ex 1 (tupDrop 0 t5_1)) fun t7_3 =>
 M.bind (bi .neq .ptr (strip t6_2) .nil) fun t9_4 =>
 M.bind (gd (strip t9_4) true (M.pure (strip t7_3))) fun t11_5 =>
 M.bind (gd (strip t9_4) true (bi .eql .none t11_5 (.int .i64 0))) fun t12_6 =>
 M.bind (pick (strip t9_4) t12_6 (.bool false)) fun t13_7 =>
 M.bind (gd (strip t13_7) true (M.pure (strip t6_2))) fun t15_8 =>
 M.bind (gd (strip t13_7) true (C u0r [(strip t15_8)])) fun t16_9 =>
 M.bind (gd (strip t13_7) true (bi .eql .none t16_9 (.int .u64 1))) fun t17_10 =>
 M.bind (pick (strip t13_7) t17_10 (.bool false)) fun t18_11 =>
 resT t18_11 (M.pure t18_11)) := by
 rw [C, u19 _ _ rfl]; kernel_rfl
theorem u3j (a0 : PV) : C u0r [a0] =
 trunc (M.bind (C u0a [(strip (strip a0))]) fun t4_0 =>
 condM t4_0
 (M.pure (.int .u64 0))
 (M.bind (nc P (strip a0)) fun t6_1 =>
 M.bind (fa 5 t6_1) fun t7_2 =>
 M.bind (ld none false t7_2) fun t8_3 =>
 M.bind (lnL t8_3) fun t9_4 =>
 M.bind (cv (.int .u64) true t9_4) fun t10_5 =>
 resT t10_5 (M.pure t10_5))) := by
 rw [C, u19 _ _ rfl]; kernel_rfl
noncomputable def u0c (v0 v1 v6 v20 v21 v22 : PV) : M PV := atP P X u0h [1, 1, 0, 1, 0] (mkEnv 36 0 [(0, v0), (1, v1), (6, v6), (20, v20), (21, v21), (22, v22)])
theorem u12 (v0 v1 v6 v20 v21 v22 : PV) : u0c v0 v1 v6 v20 v21 v22 =
 M.bind (bi .lss .none v22 v21) fun t23_0 =>
 condM t23_0
 (M.bind (iaS 1 v20 (strip v22)) fun t25_1 =>
 M.bind (ld none true t25_1) fun t26_2 =>
 M.bind (cv (.int .u64) true (strip v22)) fun t30_3 =>
 M.bind (bi .add .none (strip v1) t30_3) fun t31_4 =>
 M.bind (C u0y [(strip (strip v0)), (strip t31_4)]) fun t32_5 =>
 M.bind (nc P t32_5) fun t34_6 =>
 M.bind (st 1 true t34_6 t26_2) fun _ =>
 M.bind (bi .add .none (strip v22) (.int .i64 1)) fun t35_8 =>
 u0c v0 v1 v6 v20 v21 (strip t35_8))
 (M.pure (.int .i64 0)) :=
 (u5y P X _ _ _).trans (by kernel_rfl)
theorem u1r (a0 a1 a2 : PV) : C u0h [a0, a1, a2] =
 trunc (M.bind (C u0a [(strip (strip a0))]) fun t11_0 =>
 condM t11_0
 (M.pure (.int .i64 7))
 (M.bind (lnL (strip a2)) fun t16_1 =>
 M.bind (cv (.int .u64) true t16_1) fun t17_2 =>
 M.bind (C u0v [(strip (strip a0)), (strip (strip a1)), (strip t17_2)]) fun t18_3 =>
 M.bind (un .not t18_3) fun t19_4 =>
 condM t19_4
 (M.pure (.int .i64 210))
 (M.bind (lnL (strip a2)) fun t21_5 =>
 u0c a0 a1 (.int .i64 0) (strip a2) t21_5 (.int .i64 0)))) := by
 rw [C, u19 _ _ rfl]; kernel_rfl
noncomputable def u0d (v0 v1 v6 v7 v8 v21 v22 : PV) : M PV := atP P X u07 [1, 1, 1, 0, 1, 0] (mkEnv 37 0 [(0, v0), (1, v1), (6, v6), (7, v7), (8, v8), (21, v21), (22, v22)])
theorem u13 (v0 v1 v6 v7 v8 v21 v22 : PV) : u0d v0 v1 v6 v7 v8 v21 v22 =
 M.bind (bi .lss .none v22 v21) fun t23_0 =>
 condM t23_0
 (M.bind (bi .add .none (strip v1) (strip v22)) fun t29_1 =>
 M.bind (C u0y [(strip (strip v0)), (strip t29_1)]) fun t30_2 =>
 M.bind (nc P t30_2) fun t31_3 =>
 M.bind (ld none false t31_3) fun t32_4 =>
 M.bind (bs true none [t32_4]) fun t33_5 =>
 M.bind (ap true 1 1 v8 t33_5) fun t34_6 =>
 M.bind (bi .add .none (strip v22) (.int .u64 1)) fun t35_7 =>
 u0d v0 v1 v6 v7 t34_6 v21 (strip t35_7))
 (resT v8 (M.pure (.tup [v8, (.int .i64 0)]))) :=
 (u5y P X _ _ _).trans (by kernel_rfl)
theorem u20 (a0 a1 a2 : PV) : C u07 [a0, a1, a2] =
 trunc (M.bind (C u0a [(strip (strip a0))]) fun t12_0 =>
 condM t12_0
 (M.pure (.tup [(.slice false true 0 []), (.int .i64 7)]))
 (M.bind (C u0v [(strip (strip a0)), (strip (strip a1)), (strip (strip a2))]) fun t17_1 =>
 M.bind (un .not t17_1) fun t18_2 =>
 condM t18_2
 (M.pure (.tup [(.slice false true 0 []), (.int .i64 210)]))
 (M.bind (mk true 1 1 (.int .i64 0) (strip a2)) fun t20_3 =>
 u0d a0 a1 (.slice false true 0 []) (.int .i64 0) t20_3 (strip a2) (.int .u64 0)))) := by
 rw [C, u19 _ _ rfl]; kernel_rfl
theorem u3k (a0 a1 a2 a3 a4 : PV) : C u0s [a0, a1, a2, a3, a4] =
 trunc (M.bind (C u0a [(strip (strip a0))]) fun t14_0 =>
 M.bind (gd (strip t14_0) false (M.pure (strip a2))) fun t16_1 =>
 M.bind (gd (strip t14_0) false (C u0a [(strip t16_1)])) fun t17_2 =>
 M.bind (pick (strip t14_0) (.bool true) t17_2) fun t18_3 =>
 condM t18_3
 (M.pure (.int .i64 7))
 (M.bind (C u07 [(strip (strip a2)), (strip (strip a3)), (strip (strip a4))]) fun t23_4 =>
 M.bind (ex 0 t23_4) fun t24_5 =>
 M.bind (ex 1 (tupDrop 0 t23_4)) fun t25_6 =>
 M.bind (bi .neq .none (strip t25_6) (.int .i64 0)) fun t27_7 =>
 condM t27_7
 (resT t25_6 (M.pure t25_6))
 (M.bind (C u0h [(strip (strip a0)), (strip (strip a1)), (strip (strip t24_5))]) fun t32_8 =>
 resT t32_8 (M.pure t32_8)))) := by
 rw [C, u19 _ _ rfl]; kernel_rfl
noncomputable def u0g (v0 v1 v2 v8 v19 v20 : PV) : M PV := atP P X u0n [1, 1, 0, 1, 0] (mkEnv 31 0 [(0, v0), (1, v1), (2, v2), (8, v8), (19, v19), (20, v20)])
theorem u17 (v0 v1 v2 v8 v19 v20 : PV) : u0g v0 v1 v2 v8 v19 v20 =
 M.bind (bi .lss .none v20 v19) fun t21_0 =>
 condM t21_0
 (M.bind (bi .add .none (strip v1) (strip v20)) fun t26_1 =>
 M.bind (C u0y [(strip (strip v0)), (strip t26_1)]) fun t27_2 =>
 M.bind (nc P t27_2) fun t29_3 =>
 M.bind (st 1 true t29_3 v2) fun _ =>
 M.bind (bi .add .none (strip v20) (.int .u64 1)) fun t30_5 =>
 u0g v0 v1 (strip v2) v8 v19 (strip t30_5))
 (M.pure (.int .i64 0)) :=
 (u5y P X _ _ _).trans (by kernel_rfl)
theorem u1y (a0 a1 a2 a3 : PV) : C u0n [a0, a1, a2, a3] =
 trunc (M.bind (C u0a [(strip (strip a0))]) fun t12_0 =>
 condM t12_0
 (M.pure (.int .i64 7))
 (M.bind (C u0v [(strip (strip a0)), (strip (strip a1)), (strip (strip a3))]) fun t17_1 =>
 M.bind (un .not t17_1) fun t18_2 =>
 condM t18_2
 (M.pure (.int .i64 210))
 (u0g a0 a1 a2 (.int .i64 0) (strip a3) (.int .u64 0)))) := by
 rw [C, u19 _ _ rfl]; kernel_rfl
noncomputable def u0o (v0 v4 v5 : PV) : M PV := atP P X u15 [1, 0] (mkEnv 18 0 [(0, v0), (4, v4), (5, v5)])
theorem u1e (v0 v4 v5 : PV) : u0o v0 v4 v5 =
 M.bind (bi .lss .none v5 v4) fun t6_0 =>
 condM t6_0
 (M.bind (nc P (strip v0)) fun t9_1 =>
 M.bind (fa 5 t9_1) fun t10_2 =>
 M.bind (ld none true t10_2) fun t11_3 =>
 M.bind (alZ P 51) fun t12_4 =>
 M.bind (bsL 1 [t12_4]) fun t13_5 =>
 M.bind (apL true none 1 8 true t11_3 t13_5) fun t14_6 =>
 M.bind (nc P (strip v0)) fun t15_7 =>
 M.bind (fa 5 t15_7) fun t16_8 =>
 M.bind (stG true 1 true t16_8 t14_6) fun _ =>
 M.bind (bi .add .none v5 (.int .u64 1)) fun t17_10 =>
 u0o v0 v4 (strip t17_10))
 (M.pure (.tup [])) :=
 (u5y P X _ _ _).trans (by kernel_rfl)
theorem u3w (a0 a1 : PV) : C u15 [a0, a1] =
 truncE (u0o a0 (strip a1) (.int .u64 0)) := by
 rw [C, u19 _ _ rfl]; kernel_rfl
theorem u3i (a0 : PV) : C u0a [a0] =
 trunc (M.bind (bi .eql .ptr (strip a0) .nil) fun t4_0 =>
 M.bind (gd (strip t4_0) false (M.pure (strip a0))) fun t6_1 =>
 M.bind (gd (strip t4_0) false (nc P t6_1)) fun t7_2 =>
 M.bind (gd (strip t4_0) false (fa 0 t7_2)) fun t8_3 =>
 M.bind (gd (strip t4_0) false (ld none false t8_3)) fun t9_4 =>
 M.bind (gd (strip t4_0) false (un .not t9_4)) fun t10_5 =>
 M.bind (pick (strip t4_0) (.bool true) t10_5) fun t11_6 =>
 resT t11_6 (M.pure t11_6)) := by
 rw [C, u19 _ _ rfl]; kernel_rfl
theorem u3x (a0 a1 a2 : PV) : C u0v [a0, a1, a2] =
 trunc (M.bind (C u0r [(strip (strip a0))]) fun t10_0 =>
 M.bind (bi .mul .none t10_0 (.int .u64 65536)) fun t11_1 =>
 M.bind (C u46 [(strip (strip a1)), (strip (strip a2)), (strip t11_1)]) fun t12_2 =>
 resT t12_2 (M.pure t12_2)) := by
 rw [C, u19 _ _ rfl]; kernel_rfl
theorem u4b (a0 a1 : PV) : C u0y [a0, a1] =
 trunc (M.bind (nc P (strip a0)) fun t6_0 =>
 M.bind (fa 5 t6_0) fun t7_1 =>
 M.bind (ld none false t7_1) fun t8_2 =>
 M.bind (bi .quo .none (strip a1) (.int .u64 65536)) fun t10_3 =>
 M.bind (iaS 1 t8_2 t10_3) fun t11_4 =>
 M.bind (ld none false t11_4) fun t12_5 =>
 M.bind (bi .rem .none (strip a1) (.int .u64 65536)) fun t14_6 =>
 M.bind (nc P t12_5) fun t15_7 =>
 M.bind (iaA 65536 1 t15_7 t14_6) fun t16_8 =>
 resT t16_8 (M.pure t16_8)) := by
 rw [C, u19 _ _ rfl]; kernel_rfl
theorem ubx (a0 a1 a2 : PV) : C u46 [a0, a1, a2] =
 trunc (M.bind (bi .leq .none (strip a0) (strip a2)) fun t9_0 =>
 M.bind (gd (strip t9_0) true (M.pure (strip a1))) fun t11_1 =>
 M.bind (gd (strip t9_0) true (M.pure (strip a2))) fun t12_2 =>
 M.bind (gd (strip t9_0) true (M.pure (strip a0))) fun t13_3 =>
 M.bind (gd (strip t9_0) true (bi .sub .none t12_2 t13_3)) fun t14_4 =>
 M.bind (gd (strip t9_0) true (bi .leq .none t11_1 t14_4)) fun t15_5 =>
 M.bind (pick (strip t9_0) t15_5 (.bool false)) fun t16_6 =>
 resT t16_6 (M.pure t16_6)) := by
 rw [C, u19 _ _ rfl]; kernel_rfl
end Go.Proofs.Ytjcffopjohkmaaa.Pi.Q
namespace Go.Proofs.Ytjcffopjohkmaaa.Pi.Q
open Go Go.Proofs.Ytjcffopjohkmaaa.Pi
attribute [local congr] ite_congr
def page (D : Nat → UInt8) (i : Nat) : List PV := (List.range 65536).map fun j => byt (D (65536 * i + j))
theorem u1s (D : Nat → UInt8) (i : Nat) : (page D i).length = 65536 := by simp [page]
theorem u5v {D : Nat → UInt8} {i j : Nat} (h : j < 65536) : (page D i)[j]? = some (byt (D (65536 * i + j))) := by simp [page, h]
theorem ujs {D : Nat → UInt8} {i j : Nat} (h : j < 65536) : nth (page D i) j = some (byt (D (65536 * i + j))) := by rw [← nth_is]; exact u5v h
def upd (D : Nat → UInt8) (n : Nat) (x : UInt8) : Nat → UInt8 := fun k => if k = n then x else D k
theorem ukf {D : Nat → UInt8} {n : Nat} {x : UInt8} : fillAt (n % 65536) [byt x] (page D (n / 65536)) = page (upd D n x) (n / 65536) := by
  have hn : n % 65536 < 65536 := Nat.mod_lt _ (by omega)
  have hl : (fillAt (n % 65536) [byt x] (page D (n / 65536))).length = 65536 := by
    rw [u27 (by rw [u1s]; simp; omega), u1s]
  apply List.ext_getElem?
  intro j
  by_cases hj : j < 65536
  · rw [u29 (by rw [u1s]; simp; omega), u5v (D := upd D n x) hj]
    by_cases h1 : j = n % 65536
    · subst h1
      have e : upd D n x (65536 * (n / 65536) + n % 65536) = x := by unfold upd; rw [if_pos (by omega)]
      rw [if_pos ⟨Nat.le_refl _, by simp⟩, Nat.sub_self, e]
      rfl
    · have e : upd D n x (65536 * (n / 65536) + j) = D (65536 * (n / 65536) + j) := by unfold upd; rw [if_neg (by omega)]
      rw [if_neg (by simp; omega), u5v hj, e]
  · rw [List.getElem?_eq_none (by omega), List.getElem?_eq_none (by rw [u1s]; omega)]
theorem ug3 {D : Nat → UInt8} {n i : Nat} {x : UInt8} (h : i ≠ n / 65536) : page (upd D n x) i = page D i := by
  unfold page
  apply List.map_congr_left
  intro j hj
  have hj := List.mem_range.mp hj
  unfold upd
  rw [if_neg (by omega)]
structure MemOk (K : Heap) (c : Nat) (l0 : Bool) (mn mx : Int) (hx : Bool) (pgs : List Nat) (D : Nat → UInt8) : Prop where
  lt : ∀ g ∈ pgs, c < g
  c : ∃ pv, hget K c = some (.cells [.bool true, .bool l0, .int .u64 mn, .int .u64 mx, .bool hx, pv]) ∧ ((pgs = [] ∧ pv = .slice false true 0 []) ∨ ∃ k, pv = .win k 0 1 pgs.length ∧ (pgs ≠ [] ∧ c < k) ∧ hget K k = some (.cells (pgs.map fun i => .ptr i 0)))
  p : ∀ (i g : Nat), pgs[i]? = some g → hget K g = some (.cells (page D i))
  nd : pgs.Nodup
  z : ∀ i, 65536 * pgs.length ≤ i → D i = 0
variable {K : Heap} {c : Nat} {l0 hx : Bool} {mn mx : Int} {pgs : List Nat} {D : Nat → UInt8}
theorem u71 (h : MemOk K c l0 mn mx hx pgs D) : run (C u0a [.ptr c 0]) K = some (.ok (.bool false) K) := by
  obtain ⟨pv, hc, _⟩ := h.c
  rw [u3i]
  simp +contextual -dsimp (disch := omega) only [↓goDown, goUp, cr, simprocAttr, hc, u50, u48, Bool.not_true, Bool.not_false]
theorem uiu (h : MemOk K c l0 mn mx hx pgs D) (hp : pgs.length ≤ 64) : run (C u0r [.ptr c 0]) K = some (.ok (.int .u64 pgs.length) K) := by
  have hn := u71 h
  obtain ⟨pv, hc, hpv⟩ := h.c
  rw [u3j]
  rcases hpv with ⟨rfl, rfl⟩ | ⟨k, rfl, _, _⟩
  · simp +contextual -dsimp (disch := omega) only [↓goDown, goUp, cr, simprocAttr, hc, hn]
  · simp +contextual -dsimp (disch := omega) only [↓goDown, goUp, cr, simprocAttr, hc, hn, uhb, uak, u92, ua5]
theorem in_is {a n b : Int} (ha : 0 ≤ a ∧ a ≤ 18446744073709551615) (hn : 0 ≤ n ∧ n ≤ 18446744073709551615) (hb : 0 ≤ b ∧ b ≤ 18446744073709551615) : run (C u46 [.int .u64 a, .int .u64 n, .int .u64 b]) K = some (.ok (.bool (decide (a ≤ b) && decide (n ≤ b - a))) K) := by
  rw [ubx]
  by_cases h1 : a ≤ b
  · simp +contextual -dsimp (disch := omega) only [↓goDown, goUp, cr, simprocAttr, eq_true h1, decide_true, Bool.true_and]
  · simp +contextual -dsimp (disch := omega) only [↓goDown, goUp, cr, simprocAttr, eq_false h1, decide_false, Bool.false_and]
theorem has_is (h : MemOk K c l0 mn mx hx pgs D) (hp : pgs.length ≤ 64) {a n : Int} (ha : 0 ≤ a ∧ a ≤ 18446744073709551615) (hn : 0 ≤ n ∧ n ≤ 18446744073709551615) :
    run (C u0v [.ptr c 0, .int .u64 a, .int .u64 n]) K = some (.ok (.bool (decide (a ≤ 65536 * pgs.length) && decide (n ≤ 65536 * pgs.length - a))) K) := by
  have hs := uiu h hp
  have hm : ((pgs.length : Int) * 65536) = 65536 * pgs.length := by omega
  have hi := in_is (K := K) ha hn (b := 65536 * pgs.length) (by omega)
  rw [u3x]
  simp +contextual -dsimp (disch := omega) only [↓goDown, goUp, cr, simprocAttr, hs, hm, hi]
theorem at_is (h : MemOk K c l0 mn mx hx pgs D) (hp : pgs.length ≤ 64) {n g : Nat} (hn : pgs[n / 65536]? = some g) : run (C u0y [.ptr c 0, .int .u64 n]) K = some (.ok (.ptr g (n % 65536)) K) := by
  have hlt := (List.getElem?_eq_some_iff.mp hn).1
  obtain ⟨pv, hc, hpv⟩ := h.c
  rw [u4b]
  rcases hpv with ⟨rfl, rfl⟩ | ⟨k, rfl, _, hk⟩
  · simp at hlt
  · have hg : nth (pgs.map fun i => PV.ptr i 0) (n / 65536) = some (.ptr g 0) := by rw [← nth_is, List.getElem?_map, hn]; rfl
    have hlk : g < K.length := get_lt (h.p _ _ hn)
    have e1 : ((n : Int).tdiv 65536).toNat = n / 65536 := by rw [Int.tdiv_eq_ediv_of_nonneg (by omega)]; omega
    have e0 : (n : Int).tdiv 65536 = ((n / 65536 : Nat) : Int) := by rw [Int.tdiv_eq_ediv_of_nonneg (by omega)]; omega
    have e2 : (n : Int).tmod 65536 = ((n % 65536 : Nat) : Int) := by rw [Int.tmod_eq_emod_of_nonneg (by omega)]; omega
    simp +contextual -dsimp (disch := omega) only [↓goDown, goUp, cr, simprocAttr, hc, hk, uhb, uak, u92, ua5, ule, e0, e2, hg, Int.toNat_natCast, Nat.zero_add, Nat.mul_one, uld]
end Go.Proofs.Ytjcffopjohkmaaa.Pi.Q
namespace Go.Proofs.Ytjcffopjohkmaaa.Pi.Q
open Go Go.Proofs.Ytjcffopjohkmaaa.Pi
noncomputable def tr (n : Nat) : List Value := Nat.rec [Value.int .u8 0, Value.int .u8 0, Value.int .u8 0, Value.int .u8 0, Value.int .u8 0, Value.int .u8 0, Value.int .u8 0, Value.int .u8 0, Value.int .u8 0, Value.int .u8 0, Value.int .u8 0, Value.int .u8 0, Value.int .u8 0, Value.int .u8 0, Value.int .u8 0, Value.int .u8 0, Value.int .u8 0, Value.int .u8 0, Value.int .u8 0, Value.int .u8 0, Value.int .u8 0, Value.int .u8 0, Value.int .u8 0, Value.int .u8 0, Value.int .u8 0, Value.int .u8 0, Value.int .u8 0, Value.int .u8 0, Value.int .u8 0, Value.int .u8 0, Value.int .u8 0, Value.int .u8 0, Value.int .u8 0, Value.int .u8 0, Value.int .u8 0, Value.int .u8 0, Value.int .u8 0, Value.int .u8 0, Value.int .u8 0, Value.int .u8 0, Value.int .u8 0, Value.int .u8 0, Value.int .u8 0, Value.int .u8 0, Value.int .u8 0, Value.int .u8 0, Value.int .u8 0, Value.int .u8 0, Value.int .u8 0, Value.int .u8 0, Value.int .u8 0, Value.int .u8 0, Value.int .u8 0, Value.int .u8 0, Value.int .u8 0, Value.int .u8 0, Value.int .u8 0, Value.int .u8 0, Value.int .u8 0, Value.int .u8 0, Value.int .u8 0, Value.int .u8 0, Value.int .u8 0, Value.int .u8 0] (fun _ l => List.append l l) n
theorem tr_is : ∀ n, tr n = List.replicate (64 * 2 ^ n) (Value.int .u8 0)
  | 0 => rfl
  | n + 1 => by
    show tr n ++ tr n = _
    rw [tr_is n, List.replicate_append_replicate, Nat.pow_succ]
    congr 1
    omega
theorem info51 : P.info? 51 = some Try.t51 := by kernel_rfl
theorem zero51 : Try.t51.zero = some (.agg (tr 10).toArray) := by kernel_rfl
theorem u3q : ∀ n, ofVs (List.replicate n (Value.int .u8 0)) = some (List.replicate n (PV.int .u8 0))
  | 0 => rfl
  | n + 1 => by
    rw [List.replicate_succ, ofVs, u3q n]
    rfl
theorem ugl {i : Nat} : page (fun _ => 0) i = List.replicate 65536 (PV.int .u8 0) := by
  unfold page
  rw [show (fun j => byt ((fun _ => (0 : UInt8)) (65536 * i + j))) = fun _ => PV.int .u8 0 from rfl, List.map_const', List.length_range]
theorem ujw {K : Heap} : run (alZ P 51) K = some (.ok (.ptr K.length 0) (hadd K [.cells (List.replicate 65536 (PV.int .u8 0))])) := by
  rw [uky info51 zero51, tr_is 10]
  have e : (64 * 2 ^ 10) = 65536 := by decide
  rw [e]
  generalize 65536 = n
  have : ofV (.agg (List.replicate n (Value.int .u8 0)).toArray) = .agg (List.replicate n (PV.int .u8 0)) := by
    show (match ofVs (List.replicate n (Value.int .u8 0)).toArray.toList with | some l => PV.agg l | none => .undef) = _
    rw [List.toList_toArray, u3q]
  rw [this]
  have hc : okC (PV.agg (List.replicate n (PV.int .u8 0))).cells = List.replicate n (PV.int .u8 0) := by
    show okC (List.replicate n (PV.int .u8 0)) = _
    unfold okC
    rw [show (List.replicate n (PV.int .u8 0)).all isCell = true from by
      rw [List.all_replicate]; simp [isCell]]
    rfl
  rw [hc]
end Go.Proofs.Ytjcffopjohkmaaa.Pi.Q
namespace Go.Proofs.Ytjcffopjohkmaaa.Pi.Q
open Go Go.Proofs.Ytjcffopjohkmaaa.Pi
attribute [local congr] ite_congr
variable {K : Heap} {c : Nat} {l0 hx : Bool} {mn mx : Int} {pgs : List Nat} {D : Nat → UInt8}
theorem uj7 {l : List Nat} (h : l.Nodup) {i j x : Nat} (hi : l[i]? = some x) (hj : l[j]? = some x) : i = j := by
  exact (List.getElem?_inj (List.getElem?_eq_some_iff.mp hi).1 h).mp (hi.trans hj.symm)
theorem nsM {p : Nat} : ((p + 1 : Nat) : Int) = (p : Int) + 1 := rfl
theorem irr {p : Int} : (p < p) = False := eq_false (Int.lt_irrefl p)
theorem MemOk.ne (h : MemOk K c l0 mn mx hx pgs D) {i g : Nat} (hg : pgs[i]? = some g) : g ≠ c := by
  intro e
  subst e
  obtain ⟨pv, hc, _⟩ := h.c
  have := h.p i g hg
  rw [hc] at this
  have h2 := congrArg (fun b : Option Box => match b with | some (.cells cs) => cs.length | _ => 0) this
  simp [u1s] at h2
theorem MemOk.nk (h : MemOk K c l0 mn mx hx pgs D) {i g k : Nat} (hg : pgs[i]? = some g) (hn : pgs ≠ []) (hk : hget K k = some (.cells (pgs.map fun i => .ptr i 0))) : g ≠ k := by
  intro e
  subst e
  have := h.p i g hg
  rw [hk] at this
  cases pgs with
  | nil => exact hn rfl
  | cons a r =>
    simp only [Option.some.injEq, Box.cells.injEq, List.map_cons] at this
    have h0 := congrArg (fun l : List PV => l[0]?) this
    simp only [List.getElem?_cons_zero] at h0
    rw [u5v (by omega)] at h0
    cases h0
theorem MemOk.put (h : MemOk K c l0 mn mx hx pgs D) {n g : Nat} {x : UInt8} (hn : pgs[n / 65536]? = some g) : MemOk (hset K g (.cells (page (upd D n x) (n / 65536)))) c l0 mn mx hx pgs (upd D n x) := by
  have hlt := (List.getElem?_eq_some_iff.mp hn).1
  refine ⟨h.lt, ?_, fun i q hq => ?_, h.nd, fun i hi => ?_⟩
  · obtain ⟨pv, hc, hpv⟩ := h.c
    refine ⟨pv, by rw [u1b (h.ne hn)]; exact hc, hpv.imp id fun ⟨k, h1, h2, h3⟩ => ⟨k, h1, h2, by rw [u1b (h.nk hn h2.1 h3)]; exact h3⟩⟩
  · by_cases e : q = g
    · subst e
      have := uj7 h.nd hq hn
      subst this
      exact u7h (get_lt (h.p _ _ hn))
    · rw [u1b (fun h => e h.symm), h.p i q hq, ug3 (fun e' => by subst e'; rw [hn] at hq; exact e (Option.some.inj hq).symm)]
  · unfold upd
    rw [if_neg (by omega)]
    exact h.z i hi
def Same (pgs : List Nat) (K K' : Heap) : Prop := List.length K' = List.length K ∧ ∀ q, q ∉ pgs → hget K' q = hget K q
theorem Same.refl : Same pgs K K := ⟨rfl, fun _ _ => rfl⟩
theorem Same.trans {K1 K2 : Heap} (h : Same pgs K K1) (k : Same pgs K1 K2) : Same pgs K K2 := ⟨k.1.trans h.1, fun q hq => (k.2 q hq).trans (h.2 q hq)⟩
theorem Same.set {g : Nat} {b : Box} {i : Nat} (hg : pgs[i]? = some g) : Same pgs K (hset K g b) := ⟨u2j, fun q hq => u1b (fun e => hq (e ▸ List.mem_of_getElem? hg))⟩
def wr (D : Nat → UInt8) (at_ : Nat) (b : List UInt8) (j : Nat) : Nat → UInt8 := fun k => if at_ + j ≤ k ∧ k < at_ + b.length then b.getD (k - at_) 0 else D k
theorem wr_all {at_ : Nat} {b : List UInt8} : wr D at_ b b.length = D := by
  funext k
  unfold wr
  rw [if_neg (by omega)]
theorem ulq {at_ j : Nat} {b : List UInt8} (h : j < b.length) : wr (upd D (at_ + j) b[j]) at_ b (j + 1) = wr D at_ b j := by
  funext k
  unfold wr upd
  by_cases h1 : k = at_ + j
  · subst h1
    rw [if_neg (by omega), if_pos rfl, if_pos (by omega), show at_ + j - at_ = j by omega]
    simp [List.getD, h]
  · by_cases h2 : at_ + (j + 1) ≤ k ∧ k < at_ + b.length
    · rw [if_pos h2, if_pos (by omega)]
    · rw [if_neg h2, if_neg h1, if_neg (by omega)]
theorem uhv (h : MemOk K c l0 mn mx hx pgs D) {n g : Nat} {x : UInt8} (hn : pgs[n / 65536]? = some g) : run (st 1 true (.ptr g (n % 65536)) (byt x)) K = some (.ok .undef (hset K g (.cells (page (upd D n x) (n / 65536))))) := by
  have hp := h.p _ _ hn
  rw [run_st, hp, stB_is, if_pos ⟨rfl, by rw [u1s]; omega, by simp [byt, PV.cells, lowL, PV.low], rfl⟩, if_pos rfl, ← ukf]
  rfl
theorem ia_byt {z : Bool} {b : List UInt8} {j : Nat} (h : j < b.length) {K : Heap} : run (iaS 1 (.slice false z 1 (bytes b)) (.int .i64 j)) K = some (.ok (.elem [byt b[j]]) K) := by
  rw [udc (by omega)]
  have : (bytes b)[((j : Int)).toNat]? = some (byt b[j]) := by simp [h]
  rw [this]
  rfl
theorem ucw {n : Nat} (h : n < 65536 * pgs.length) : ∃ g, pgs[n / 65536]? = some g := ⟨pgs[n / 65536]'(by omega), List.getElem?_eq_getElem (by omega)⟩
theorem u8s {z : Bool} {b : List UInt8} {at_ : Nat} {v6 : PV} (hp : pgs.length ≤ 64) (hfit : at_ + b.length ≤ 65536 * pgs.length) : ∀ (m j : Nat) (K : Heap) (D : Nat → UInt8), j + m = b.length → MemOk K c l0 mn mx hx pgs D →
    ∃ K', run (u0c (.ptr c 0) (.int .u64 at_) v6 (.slice false z 1 (bytes b)) (.int .i64 b.length) (.int .i64 j)) K = some (.ok (.int .i64 0) K') ∧ MemOk K' c l0 mn mx hx pgs (wr D at_ b j) ∧ Same pgs K K'
  | 0, j, K, D, h, hm => by
    have hj : j = b.length := by omega
    subst hj
    refine ⟨K, ?_, by rw [wr_all]; exact hm, Same.refl⟩
    rw [u12]
    simp +contextual -dsimp (disch := omega) only [↓goDown, goUp, cr, simprocAttr, irr]
  | m + 1, j, K, D, h, hm => by
    have hj : j < b.length := by omega
    obtain ⟨g, hg⟩ := ucw (pgs := pgs) (n := at_ + j) (by omega)
    obtain ⟨K', h1, h2, h3⟩ := u8s (z := z) (v6 := v6) hp hfit m (j + 1) _ _ (by omega) (hm.put (x := b[j]) hg)
    rw [ulq hj] at h2
    refine ⟨K', ?_, h2, (Same.set hg).trans h3⟩
    rw [← h1, u12]
    have hat := at_is hm hp hg
    rw [Int.natCast_add] at hat
    have hst := uhv (x := b[j]) hm hg
    have c1 : ((j : Int) < b.length) = True := eq_true (by omega)
    have hia : ∀ K, run (iaS 1 (.slice false z 1 (bytes b)) (.int .i64 j)) K = some (.ok (.elem [byt b[j]]) K) := fun K => ia_byt hj
    simp +contextual -dsimp (disch := omega) only [↓goDown, goUp, cr, simprocAttr, c1, hia, hat, hst, nsM]
theorem ueq {z : Bool} {b : List UInt8} {at_ : Nat} (hm : MemOk K c l0 mn mx hx pgs D) (hp : pgs.length ≤ 64) (hb : b.length ≤ 140737488351232) (ha : at_ ≤ 18446744073709551615) :
    if at_ + b.length ≤ 65536 * pgs.length then ∃ K', run (C u0h [.ptr c 0, .int .u64 at_, .slice false z 1 (bytes b)]) K = some (.ok (.int .i64 0) K') ∧ MemOk K' c l0 mn mx hx pgs (wr D at_ b 0) ∧ Same pgs K K'
    else run (C u0h [.ptr c 0, .int .u64 at_, .slice false z 1 (bytes b)]) K = some (.ok (.int .i64 210) K) := by
  have hn := u71 hm
  have hh := has_is hm hp (a := at_) (n := b.length) (by omega) (by omega)
  have hl : (bytes b).length = b.length := by simp
  split
  · rename_i hfit
    obtain ⟨K', h1, h2, h3⟩ := u8s (z := z) (v6 := .int .i64 0) hp hfit b.length 0 K D (by omega) hm
    refine ⟨K', ?_, h2, h3⟩
    have hlen := h3.1
    have e1 : (((at_ : Int) ≤ 65536 * pgs.length) = True) := eq_true (by omega)
    have e2 : (((b.length : Int) ≤ 65536 * pgs.length - at_) = True) := eq_true (by omega)
    have hcut : hcut K' K.length = K' := u52 hlen.symm
    rw [u1r]
    have h1 : run (u0c (.ptr c 0) (.int .u64 at_) (.int .i64 0) (.slice false z 1 (bytes b)) (.int .i64 b.length) (.int .i64 0)) K = some (.ok (.int .i64 0) K') := h1
    simp +contextual -dsimp (disch := omega) only [↓goDown, goUp, cr, simprocAttr, hn, hh, hl, e1, e2, decide_true, Bool.and_self, h1, hcut, u48, Bool.not_true]
  · rename_i hfit
    have e1 : (decide ((at_ : Int) ≤ 65536 * pgs.length) && decide ((b.length : Int) ≤ 65536 * pgs.length - at_)) = false := by
      rw [Bool.and_eq_false_iff, decide_eq_false_iff_not, decide_eq_false_iff_not]
      omega
    rw [u1r]
    simp +contextual -dsimp (disch := omega) only [↓goDown, goUp, cr, simprocAttr, hn, hh, hl, e1, u48, Bool.not_false]
def rd (D : Nat → UInt8) (at_ n : Nat) : List UInt8 := (List.range n).map fun i => D (at_ + i)
theorem u2g {at_ n : Nat} : (rd D at_ n).length = n := by simp [rd]
theorem ult {at_ n : Nat} : rd D at_ (n + 1) = rd D at_ n ++ [D (at_ + n)] := by simp [rd, List.range_succ]
theorem ap_byt {l : List UInt8} {x : UInt8} (h : l.length ≤ 140737488351232) : run (ap true 1 1 (.slice true false 1 (bytes l)) (.slice true false 1 [byt x])) K = some (.ok (.slice true false 1 (bytes (l ++ [x]))) K) := by
  unfold run
  have hg : growB 1 ((bytes l).length + 1) = true := by simp [growB]; omega
  show (bif true && ((1 : Nat) == 1 && growB 1 ((bytes l).length + [byt x].length)) then M.pure (PV.slice true false 1 (bytes l ++ [byt x])) else M.fail) K = _
  rw [show [byt x].length = 1 from rfl, hg]
  simp [M.pure]
theorem mk_byt {n : Nat} (h : n ≤ 140737488351232) : run (mk true 1 1 (.int .i64 0) (.int .u64 n)) K = some (.ok (.slice true false 1 []) K) := by
  unfold run mk
  have hg : growB 1 n = true := by simp [growB]; omega
  simp [hg, M.pure]
theorem uku {x : UInt8} : bsR true none [stripC (byt x)] K = some (.ok (.slice true false 1 [byt x]) K) := by simp [bsR, u09, PV.flat, byt, stripC]
theorem uln (h : MemOk K c l0 mn mx hx pgs D) {n g : Nat} (hn : pgs[n / 65536]? = some g) : run (ld none false (.ptr g (n % 65536))) K = some (.ok (byt (D n)) K) := by
  rw [run_ld, h.p _ _ hn, ldB_f, ujs (Nat.mod_lt _ (by omega)), u7j, show 65536 * (n / 65536) + n % 65536 = n by omega]
  rfl
theorem ucd {at_ n : Nat} {v6 v7 : PV} (hm : MemOk K c l0 mn mx hx pgs D) (hp : pgs.length ≤ 64) (hfit : at_ + n ≤ 65536 * pgs.length) : ∀ (m j : Nat), j + m = n →
    run (u0d (.ptr c 0) (.int .u64 at_) v6 v7 (.slice true false 1 (bytes (rd D at_ j))) (.int .u64 n) (.int .u64 j)) K = some (.ok (.tup [.slice true false 1 (bytes (rd D at_ n)), .int .i64 0]) K)
  | 0, j, h => by
    have hj : j = n := by omega
    subst hj
    rw [u13]
    simp +contextual -dsimp (disch := omega) only [↓goDown, goUp, cr, simprocAttr, irr]
  | m + 1, j, h => by
    obtain ⟨g, hg⟩ := ucw (pgs := pgs) (n := at_ + j) (by omega)
    have ih := ucd (v6 := v6) (v7 := v7) hm hp hfit m (j + 1) (by omega)
    rw [← ih, u13]
    have hat := at_is hm hp hg
    rw [Int.natCast_add] at hat
    have hld := uln hm hg
    have c1 : ((j : Int) < n) = True := eq_true (by omega)
    have hap := ap_byt (K := K) (l := rd D at_ j) (x := D (at_ + j)) (by rw [u2g]; omega)
    rw [← ult] at hap
    simp +contextual -dsimp (disch := omega) only [↓goDown, goUp, cr, simprocAttr, c1, hat, hld, uku, hap, nsM]
theorem u9v {at_ n : Nat} (hm : MemOk K c l0 mn mx hx pgs D) (hp : pgs.length ≤ 64) (ha : at_ ≤ 18446744073709551615) (hn : n ≤ 18446744073709551615) : run (C u07 [.ptr c 0, .int .u64 at_, .int .u64 n]) K =
    if at_ + n ≤ 65536 * pgs.length then some (.ok (.tup [.slice true false 1 (bytes (rd D at_ n)), .int .i64 0]) K) else some (.ok (.tup [.slice false true 0 [], .int .i64 210]) K) := by
  have h0 := u71 hm
  have hh := has_is hm hp (a := at_) (n := n) (by omega) (by omega)
  split
  · rename_i hfit
    have h1 := ucd (v6 := .slice false true 0 []) (v7 := .int .i64 0) hm hp hfit n 0 (by omega)
    have h1 : run (u0d (.ptr c 0) (.int .u64 at_) (.slice false true 0 []) (.int .i64 0) (.slice true false 1 []) (.int .u64 n) (.int .u64 0)) K = some (.ok (.tup [.slice true false 1 (bytes (rd D at_ n)), .int .i64 0]) K) := h1
    have e1 : (((at_ : Int) ≤ 65536 * pgs.length) = True) := eq_true (by omega)
    have e2 : (((n : Int) ≤ 65536 * pgs.length - at_) = True) := eq_true (by omega)
    have hmk := mk_byt (K := K) (n := n) (by omega)
    rw [u20]
    simp +contextual -dsimp (disch := omega) only [↓goDown, goUp, cr, simprocAttr, h0, hh, e1, e2, decide_true, Bool.and_self, h1, hmk, u48, Bool.not_true]
  · rename_i hfit
    have e1 : (decide ((at_ : Int) ≤ 65536 * pgs.length) && decide ((n : Int) ≤ 65536 * pgs.length - at_)) = false := by
      rw [Bool.and_eq_false_iff, decide_eq_false_iff_not, decide_eq_false_iff_not]
      omega
    rw [u20]
    simp +contextual -dsimp (disch := omega) only [↓goDown, goUp, cr, simprocAttr, h0, hh, e1, u48, Bool.not_false]
end Go.Proofs.Ytjcffopjohkmaaa.Pi.Q
namespace Go.Proofs.Ytjcffopjohkmaaa.Pi.Q
open Go Go.Proofs.Ytjcffopjohkmaaa.Pi
attribute [local congr] ite_congr
variable {K : Heap} {c : Nat} {l0 hx : Bool} {mn mx : Int} {pgs : List Nat} {D : Nat → UInt8}
def fl (D : Nat → UInt8) (at_ n : Nat) (x : UInt8) (j : Nat) : Nat → UInt8 := fun k => if at_ + j ≤ k ∧ k < at_ + n then x else D k
theorem fl_all {at_ n : Nat} {x : UInt8} : fl D at_ n x n = D := by
  funext k
  unfold fl
  rw [if_neg (by omega)]
theorem ulk {at_ n j : Nat} {x : UInt8} (h : j < n) : fl (upd D (at_ + j) x) at_ n x (j + 1) = fl D at_ n x j := by
  funext k
  unfold fl upd
  by_cases h1 : k = at_ + j
  · subst h1
    rw [if_neg (by omega), if_pos rfl, if_pos (by omega)]
  · by_cases h2 : at_ + (j + 1) ≤ k ∧ k < at_ + n
    · rw [if_pos h2, if_pos (by omega)]
    · rw [if_neg h2, if_neg h1, if_neg (by omega)]
theorem ubo {x : UInt8} {at_ n : Nat} {v8 : PV} (hp : pgs.length ≤ 64) (hfit : at_ + n ≤ 65536 * pgs.length) : ∀ (m j : Nat) (K : Heap) (D : Nat → UInt8), j + m = n → MemOk K c l0 mn mx hx pgs D →
    ∃ K', run (u0g (.ptr c 0) (.int .u64 at_) (byt x) v8 (.int .u64 n) (.int .u64 j)) K = some (.ok (.int .i64 0) K') ∧ MemOk K' c l0 mn mx hx pgs (fl D at_ n x j) ∧ Same pgs K K'
  | 0, j, K, D, h, hm => by
    have hj : j = n := by omega
    subst hj
    refine ⟨K, ?_, by rw [fl_all]; exact hm, Same.refl⟩
    rw [u17]
    simp +contextual -dsimp (disch := omega) only [↓goDown, goUp, cr, simprocAttr, irr]
  | m + 1, j, K, D, h, hm => by
    have hj : j < n := by omega
    obtain ⟨g, hg⟩ := ucw (pgs := pgs) (n := at_ + j) (by omega)
    obtain ⟨K', h1, h2, h3⟩ := ubo (v8 := v8) hp hfit m (j + 1) _ _ (by omega) (hm.put (x := x) hg)
    rw [ulk hj] at h2
    refine ⟨K', ?_, h2, (Same.set hg).trans h3⟩
    rw [← h1, u17]
    have hat := at_is hm hp hg
    rw [Int.natCast_add] at hat
    have hst := uhv (x := x) hm hg
    have c1 : ((j : Int) < n) = True := eq_true (by omega)
    have hsb : strip (byt x) = byt x := rfl
    simp +contextual -dsimp (disch := omega) only [↓goDown, goUp, cr, simprocAttr, c1, hat, hst, nsM, hsb]
theorem ul4 {x : UInt8} {at_ n : Nat} (hm : MemOk K c l0 mn mx hx pgs D) (hp : pgs.length ≤ 64) (hn : n ≤ 18446744073709551615) (ha : at_ ≤ 18446744073709551615) :
    if at_ + n ≤ 65536 * pgs.length then ∃ K', run (C u0n [.ptr c 0, .int .u64 at_, byt x, .int .u64 n]) K = some (.ok (.int .i64 0) K') ∧ MemOk K' c l0 mn mx hx pgs (fl D at_ n x 0) ∧ Same pgs K K'
    else run (C u0n [.ptr c 0, .int .u64 at_, byt x, .int .u64 n]) K = some (.ok (.int .i64 210) K) := by
  have h0 := u71 hm
  have hh := has_is hm hp (a := at_) (n := n) (by omega) (by omega)
  split
  · rename_i hfit
    obtain ⟨K', h1, h2, h3⟩ := ubo (v8 := .int .i64 0) (x := x) hp hfit n 0 K D (by omega) hm
    refine ⟨K', ?_, h2, h3⟩
    have hlen := h3.1
    have e1 : (((at_ : Int) ≤ 65536 * pgs.length) = True) := eq_true (by omega)
    have e2 : (((n : Int) ≤ 65536 * pgs.length - at_) = True) := eq_true (by omega)
    have hcut : hcut K' K.length = K' := u52 hlen.symm
    rw [u1y]
    have h1 : run (u0g (.ptr c 0) (.int .u64 at_) (byt x) (.int .i64 0) (.int .u64 n) (.int .u64 0)) K = some (.ok (.int .i64 0) K') := h1
    simp +contextual -dsimp (disch := omega) only [↓goDown, goUp, cr, simprocAttr, h0, hh, e1, e2, decide_true, Bool.and_self, h1, hcut, u48, Bool.not_true]
  · rename_i hfit
    have e1 : (decide ((at_ : Int) ≤ 65536 * pgs.length) && decide ((n : Int) ≤ 65536 * pgs.length - at_)) = false := by
      rw [Bool.and_eq_false_iff, decide_eq_false_iff_not, decide_eq_false_iff_not]
      omega
    rw [u1y]
    simp +contextual -dsimp (disch := omega) only [↓goDown, goUp, cr, simprocAttr, h0, hh, e1, u48, Bool.not_false]
theorem udh {dst src n : Nat} (hm : MemOk K c l0 mn mx hx pgs D) (hp : pgs.length ≤ 64) (hd : dst ≤ 18446744073709551615) (hs : src ≤ 18446744073709551615) (hn : n ≤ 18446744073709551615) (h1 : dst + n ≤ 65536 * pgs.length) (h2 : src + n ≤ 65536 * pgs.length) :
    ∃ K', run (C u0s [.ptr c 0, .int .u64 dst, .ptr c 0, .int .u64 src, .int .u64 n]) K = some (.ok (.int .i64 0) K') ∧ MemOk K' c l0 mn mx hx pgs (wr D dst (rd D src n) 0) ∧ Same pgs K K' := by
  have h0 := u71 hm
  have hr := u9v hm hp hs hn
  rw [if_pos h2] at hr
  have hw := ueq (z := false) (b := rd D src n) hm hp (by rw [u2g]; omega) hd
  rw [u2g, if_pos h1] at hw
  obtain ⟨K', hw, h3, h4⟩ := hw
  refine ⟨K', ?_, h3, h4⟩
  have hcut : hcut K' K.length = K' := u52 h4.1.symm
  have hsb : ∀ b, strip (.slice true false 1 (bytes b)) = .slice false false 1 (bytes b) := fun _ => rfl
  rw [u3k]
  simp +contextual -dsimp (disch := omega) only [↓goDown, goUp, cr, simprocAttr, h0, hr, hw, hcut, hsb]
end Go.Proofs.Ytjcffopjohkmaaa.Pi.Q
namespace Go.Proofs.Ytjcffopjohkmaaa.Pi.Q
open Go Go.Proofs.Ytjcffopjohkmaaa.Pi
attribute [local congr] ite_congr
variable {K : Heap} {c : Nat} {l0 hx : Bool} {mn mx : Int} {pgs : List Nat} {D : Nat → UInt8}
theorem MemOk.low (h : MemOk K c l0 mn mx hx pgs D) {g : Nat} (hg : g ∈ pgs) : g < K.length := by
  obtain ⟨i, hi⟩ := List.getElem?_of_mem hg
  exact get_lt (h.p i g hi)
theorem ulf (h : MemOk K c l0 mn mx hx pgs D) (hp : pgs.length < 64) {b : Box} :
    ∃ pv K2, hget K c = some (.cells [.bool true, .bool l0, .int .u64 mn, .int .u64 mx, .bool hx, pv]) ∧ stripC pv = pv ∧ isTup pv = false ∧
      run (apL true none 1 8 true pv (.lit 1 1 [.ptr K.length 0])) (hadd K [b]) = some (.ok (.win (K.length + 1) 0 1 (pgs.length + 1)) K2) ∧
      List.length K2 = K.length + 2 ∧ hget K2 (K.length + 1) = some (.cells ((pgs ++ [K.length]).map fun i => .ptr i 0)) ∧ hget K2 K.length = some b ∧
      ∀ q, q ≤ c ∨ q ∈ pgs → hget K2 q = hget K q := by
  obtain ⟨pv, hc, hpv⟩ := h.c
  have hg : ∀ n, n < 65 → growB 8 n = true := by intro n hn; simp [growB]; omega
  have hL : List.length (hadd K [b]) = K.length + 1 := by rw [u44]; rfl
  have hcl : c < K.length := get_lt hc
  rcases hpv with ⟨rfl, rfl⟩ | ⟨k, rfl, hk, hk2⟩
  · have e := ulr (H := hadd K [b]) (own := true) (a := none) (sz := 1) (b := 8) (sx := 0) (m := 1) (cs := [PV.ptr K.length 0]) (by decide) (hg 1 (by omega))
    rw [hL, u6y] at e
    refine ⟨_, hadd K [b, .cells [PV.ptr K.length 0]], hc, rfl, rfl, e, by rw [u44]; rfl, ?_, ?_, fun q hq => ?_⟩
    · rw [u55]; rfl
    · rw [u9d]; rfl
    · rcases hq with hq | hq
      · rw [u56 (by omega)]
      · cases hq
  · have hkl := get_lt hk2
    have e1 : hget (hadd K [b]) k = some (.cells (pgs.map fun i => .ptr i 0)) := by rw [u56 hkl, hk2]
    have e := ukt (own := true) (a := none) (nw := true) (sz := 1) (b := 8) (n0 := pgs.length) (m := 1) (cs := [PV.ptr K.length 0]) e1 (by simp) (hg _ (by omega))
    rw [hL, u9y hkl, u6y, Nat.mul_one, List.take_of_length_le (by simp)] at e
    refine ⟨_, hadd (hset K k .dead) [b, .cells (pgs.map (fun i => PV.ptr i 0) ++ [PV.ptr K.length 0])], hc, rfl, rfl, e, by rw [u44, u2j]; rfl, ?_, ?_, fun q hq => ?_⟩
    · rw [u4o, List.map_append]; rfl
    · rw [u4h]; rfl
    · have h1 : q < K.length := by
        rcases hq with hq | hq
        · omega
        · exact h.low hq
      have h2 : k ≠ q := by
        rcases hq with hq | hq
        · omega
        · obtain ⟨i, hi⟩ := List.getElem?_of_mem hq
          exact fun e => h.nk hi hk.1 hk2 e.symm
      rw [u5r h1, u1b h2]
theorem ueu {n : Nat} (hn64 : n ≤ 64) : ∀ (m j : Nat) (K : Heap) (pgs : List Nat), j + m = n → pgs.length + m ≤ 64 → MemOk K c l0 mn mx hx pgs D →
    ∃ K' qs, run (u0o (.ptr c 0) (.int .u64 n) (.int .u64 j)) K = some (.ok (.tup []) K') ∧ MemOk K' c l0 mn mx hx (pgs ++ qs) D ∧ List.length qs = m ∧ K.length ≤ List.length K' ∧ (∀ q, q < c → hget K' q = hget K q) ∧ (m = 0 → K' = K)
  | 0, j, K, pgs, h, hl, hm => by
    have hj : j = n := by omega
    subst hj
    refine ⟨K, [], ?_, by rw [List.append_nil]; exact hm, rfl, Nat.le_refl _, fun _ _ => rfl, fun _ => rfl⟩
    rw [u1e]
    simp +contextual -dsimp (disch := omega) only [↓goDown, goUp, cr, simprocAttr, irr]
  | m + 1, j, K, pgs, h, hl, hm => by
    have hj : j < n := by omega
    obtain ⟨Z, hZ⟩ : ∃ Z, Z = List.replicate 65536 (PV.int .u8 0) := ⟨_, rfl⟩
    obtain ⟨pv, K2, hc, hs, ht, ha, hL, hk', hg, hq⟩ := ulf hm (by omega) (b := .cells Z)
    have hcl := get_lt hc
    have hc2 : hget K2 c = some (.cells [.bool true, .bool l0, .int .u64 mn, .int .u64 mx, .bool hx, pv]) := by rw [hq c (Or.inl (Nat.le_refl _)), hc]
    have hst := ull (m := 1) (mv := true) (o := 5) (v := .win (K.length + 1) 0 1 (pgs.length + 1)) hc2 rfl (Nat.le_refl 6) rfl
    have e3 : fillAt 5 (if true = true then (PV.win (K.length + 1) 0 1 (pgs.length + 1)).cells else (PV.win (K.length + 1) 0 1 (pgs.length + 1)).cells.map stripC) [.bool true, .bool l0, .int .u64 mn, .int .u64 mx, .bool hx, pv] = [.bool true, .bool l0, .int .u64 mn, .int .u64 mx, .bool hx, .win (K.length + 1) 0 1 (pgs.length + 1)] := rfl
    rw [e3] at hst
    have hm3 : MemOk (hset K2 c (.cells [.bool true, .bool l0, .int .u64 mn, .int .u64 mx, .bool hx, .win (K.length + 1) 0 1 (pgs.length + 1)])) c l0 mn mx hx (pgs ++ [K.length]) D := by
      have hlp : (pgs ++ [K.length]).length = pgs.length + 1 := by simp
      refine ⟨fun g hg => ?_, ⟨_, u7h (by omega), Or.inr ⟨K.length + 1, by rw [hlp], ⟨by simp, by omega⟩, by rw [u1b (by omega), hk']⟩⟩, fun i g hi => ?_, ?_, fun i hi => hm.z i (by omega)⟩
      · rcases List.mem_append.mp hg with hg | hg
        · exact hm.lt g hg
        · rw [List.mem_singleton.mp hg]; exact hcl
      · rw [List.getElem?_append] at hi
        split at hi
        · have hne := hm.ne hi
          rw [u1b (fun e => hne e.symm), hq g (Or.inr (List.mem_of_getElem? hi)), hm.p i g hi]
        · rename_i hni
          have hi0 : i = pgs.length := by
            have := (List.getElem?_eq_some_iff.mp hi).1
            simp at this
            omega
          subst hi0
          rw [Nat.sub_self] at hi
          have hi : g = K.length := (Option.some.inj hi).symm
          subst hi
          rw [u1b (by omega), hg, hZ, ← ugl (i := pgs.length)]
          congr 2
          unfold page
          apply List.map_congr_left
          intro k hk
          rw [hm.z (65536 * pgs.length + k) (by omega)]
      · rw [List.nodup_append]
        refine ⟨hm.nd, by simp, fun a ha b hb => ?_⟩
        rw [List.mem_singleton.mp hb]
        have := hm.low ha
        omega
    obtain ⟨K', qs, h1, h2, h3, h4, h5, h6⟩ := ueu hn64 m (j + 1) _ _ (by omega) (by simp; omega) hm3
    rw [List.append_assoc] at h2
    rw [u2j] at h4
    refine ⟨K', K.length :: qs, ?_, h2, by simp [h3], by omega, fun q hq' => ?_, fun h => by cases h⟩
    · rw [← h1, u1e]
      have c1 : ((j : Int) < n) = True := eq_true (by omega)
      have hss : hset K c (.cells [.bool true, .bool l0, .int .u64 mn, .int .u64 mx, .bool hx, pv]) = K := uk9 hc
      have hld : run (ld none true (.ptr c 5)) K = some (.ok pv K) := by
        rw [run_ld, hc, ldB_t]
        show some (Out.ok pv (hset K c (.cells [.bool true, .bool l0, .int .u64 mn, .int .u64 mx, .bool hx, stripC pv]))) = _
        rw [hs, hss]
      have hbs : run (bsL 1 [.ptr K.length 0]) (hadd K [.cells Z]) = some (.ok (.lit 1 1 [.ptr K.length 0]) (hadd K [.cells Z])) := uka rfl
      have hal := ujw (K := K)
      rw [← hZ] at hal
      simp +contextual -dsimp (disch := omega) only [↓goDown, goUp, cr, simprocAttr, c1, hld, hal, hbs, ha, hst, nsM]
    · rw [h5 q hq', u1b (by omega), hq q (Or.inl (by omega))]
theorem MemOk.same_len {K' : Heap} {pgs' : List Nat} {D' : Nat → UInt8} (h : MemOk K c l0 mn mx hx pgs D) (h' : MemOk K' c l0 mn mx hx pgs' D') (e : hget K' c = hget K c) : pgs'.length = pgs.length := by
  obtain ⟨pv, hc, hpv⟩ := h.c
  obtain ⟨pv', hc', hpv'⟩ := h'.c
  rw [e, hc] at hc'
  have hc' := Option.some.inj hc'
  injection hc' with hc'
  injection hc' with _ hc'
  injection hc' with _ hc'
  injection hc' with _ hc'
  injection hc' with _ hc'
  injection hc' with _ hc'
  injection hc' with hc' _
  subst hc'
  rcases hpv with ⟨rfl, rfl⟩ | ⟨k, rfl, hk, hk2⟩ <;> rcases hpv' with ⟨rfl, h2⟩ | ⟨k', h2, hk', hk2'⟩
  · rfl
  · cases h2
  · cases h2
  · injection h2 with _ _ _ h2
    exact h2.symm
theorem grown {n : Nat} {K' : Heap} {qs : List Nat} {v : PV} (hm : MemOk K c l0 mn mx hx pgs D) (hm' : MemOk K' c l0 mn mx hx (pgs ++ qs) D) (hq : qs.length = n) (hK : n = 0 → K' = K) :
    u24 K (some (.ok v K')) = some (.ok v K') := by
  by_cases h0 : n = 0
  · rw [hK h0, u2p, hcut, List.take_length, ite_self]
  · refine udn fun e => ?_
    have hcl : c < K.length := by obtain ⟨pv, hc, _⟩ := hm.c; exact get_lt hc
    have e2 : hget K' c = hget K c := by
      have : hget (hcut K' K.length) c = hget K' c := by unfold hcut hget; rw [List.getElem?_take_of_lt hcl]
      rw [← this, e]
    have := hm.same_len hm' e2
    rw [List.length_append] at this
    omega
theorem add_is {n : Nat} (hn : pgs.length + n ≤ 64) (hm : MemOk K c l0 mn mx hx pgs D) :
    ∃ K' qs, run (C u15 [.ptr c 0, .int .u64 n]) K = some (.ok (.tup []) K') ∧ MemOk K' c l0 mn mx hx (pgs ++ qs) D ∧ List.length qs = n ∧ K.length ≤ List.length K' ∧ (∀ q, q < c → hget K' q = hget K q) ∧ (n = 0 → K' = K) := by
  obtain ⟨K', qs, h1, h2, h3, h4, h5, h6⟩ := ueu (n := n) (by omega) n 0 K pgs (by omega) hn hm
  refine ⟨K', qs, ?_, h2, h3, h4, h5, h6⟩
  have h1 : run (u0o (.ptr c 0) (strip (.int .u64 n)) (.int .u64 0)) K = some (.ok (.tup []) K') := h1
  rw [u3w, u1c, h1]
  exact grown hm h2 h3 h6
end Go.Proofs.Ytjcffopjohkmaaa.Pi.Q
namespace Go.Proofs.Ytjcffopjohkmaaa.Pi.Q
open Go Go.Proofs.Ytjcffopjohkmaaa.Pi
attribute [local congr] ite_congr
variable {K : Heap} {c : Nat} {l0 hx : Bool} {pgs : List Nat} {D : Nat → UInt8}
theorem uhx {H K : Heap} (hl : H.length ≤ List.length K) (h : ∀ q, q < H.length → hget K q = hget H q) : hcut K H.length = H := by
  unfold hcut
  apply List.ext_getElem?
  intro q
  by_cases hq : q < H.length
  · rw [List.getElem?_take_of_lt hq]
    exact h q hq
  · rw [List.getElem?_eq_none (by simp; omega), List.getElem?_eq_none (by omega)]
theorem new_ok {H : Heap} {mn mx cap : Nat} (hc : cap ≤ 64) (hmx : mx ≤ 18446744073709551615) (h1 : mn ≤ cap) (h2 : ¬ (hx = true ∧ mx < mn)) :
    ∃ c K pgs, run (C u1k [.agg [.bool l0, .int .u64 mn, .int .u64 mx, .bool hx], .int .u64 cap]) H = some (.ok (.tup [.ptr c 0, .int .i64 0]) K) ∧ MemOk K c l0 mn mx hx pgs (fun _ => 0) ∧ pgs.length = mn ∧ H.length ≤ c ∧ H.length ≤ List.length K ∧ (∀ q, q < H.length → hget K q = hget H q) := by
  have c1 : ((cap : Int) < mn) = False := eq_false (by omega)
  have c2 : ((64 : Int) < mn) = False := eq_false (by omega)
  have hm0 : MemOk (hadd H [.cells [.bool l0, .int .u64 mn, .int .u64 mx, .bool hx], .cells [.bool true, .bool l0, .int .u64 mn, .int .u64 mx, .bool hx, .slice false true 0 []]]) (H.length + 1) l0 mn mx hx [] (fun _ => 0) :=
    ⟨fun g hg => (by cases hg), ⟨_, by rw [u55]; rfl, Or.inl ⟨rfl, rfl⟩⟩, fun i g hi => (by simp at hi), List.nodup_nil, fun _ _ => rfl⟩
  obtain ⟨K', qs, a1, a2, a3, a4, a5, a6⟩ := add_is (n := mn) (by simp; omega) hm0
  rw [u44] at a4
  have a4 : H.length + 2 ≤ List.length K' := a4
  refine ⟨H.length + 1, K', qs, ?_, a2, a3, by omega, by omega, fun q hq => by rw [a5 q (by omega), u56 hq]⟩
  have hlow : u24 H (some (.ok (.tup [.ptr (H.length + 1) 0, .int .i64 0]) K')) = some (.ok (.tup [.ptr (H.length + 1) 0, .int .i64 0]) K') := ucx (by simp [PV.low, lowL])
  rw [← hlow, u9s]
  cases hx
  · simp +contextual -dsimp (disch := omega) only [↓goDown, goUp, cr, simprocAttr, u1c, c1, c2, decide_true, decide_false, a1]
  · have c3 : ((mx : Int) < mn) = False := eq_false (fun h => h2 ⟨rfl, by omega⟩)
    simp +contextual -dsimp (disch := omega) only [↓goDown, goUp, cr, simprocAttr, u1c, c1, c2, c3, decide_true, decide_false, a1]
theorem ukg {H : Heap} : run (C u0m []) H = some (.ok (.bool true) H) := by
  obtain ⟨c, K, pgs, hn, hm, hp, hc, hl, hf⟩ := new_ok (H := H) (l0 := false) (hx := false) (mn := 1) (mx := 0) (cap := 1) (by decide) (by decide) (by decide) (by decide)
  have hs := uiu hm (by omega)
  rw [hp] at hs
  have hg : u24 H (some (.ok (.bool true) K)) = some (.ok (.bool true) H) := ud5 (uhx hl hf) rfl
  rw [← hg, u38]
  have hn : run (C u1k [.agg [.bool false, .int .u64 1, .int .u64 0, .bool false], .int .u64 1]) H = some (.ok (.tup [.ptr c 0, .int .i64 0]) K) := hn
  have hs : run (C u0r [.ptr c 0]) K = some (.ok (.int .u64 1) K) := hs
  simp +contextual -dsimp (disch := omega) only [↓goDown, goUp, cr, simprocAttr, u1c, hn, hs, uir]
end Go.Proofs.Ytjcffopjohkmaaa.Pi.Q
namespace Go.Proofs.Ytjcffopjohkmaaa.Pi.Q
open Go Go.Proofs.Ytjcffopjohkmaaa.Pi
attribute [local congr] ite_congr
variable {K : Heap} {c : Nat} {l0 hx : Bool} {pgs : List Nat} {D : Nat → UInt8}
theorem u83 : ∀ b : List UInt8, u1u (bytes b) = some b
  | [] => rfl
  | x :: r => by
    show (u1u (bytes r)).map (UInt8.ofNat ((x.toNat : Int)).toNat :: ·) = _
    rw [u83 r]
    simp
theorem ua0 {z o : Bool} {b : List UInt8} {K : Heap} : run (cv .bytesToStr o (.slice false z 1 (bytes b))) K = some (.ok (.str ⟨b.toArray⟩) K) := by
  unfold run
  show (match u1u (bytes b) with | some l => M.pure (PV.str ⟨l.toArray⟩) | none => M.fail) K = _
  rw [u83]
  rfl
theorem uks {b d : List UInt8} {K : Heap} (h : b = d) : run (bi .neq .none (.str ⟨b.toArray⟩) (.str ⟨d.toArray⟩)) K = some (.ok (.bool false) K) := by
  subst h
  unfold run
  show M.pure (PV.bool (!((ByteArray.mk b.toArray).toList == (ByteArray.mk b.toArray).toList))) K = _
  rw [beq_self_eq_true]
  rfl
theorem ukz {b d : List UInt8} {K : Heap} (h : b = d) : run (bi .eql .none (.str ⟨b.toArray⟩) (.str ⟨d.toArray⟩)) K = some (.ok (.bool true) K) := by
  subst h
  unfold run
  show M.pure (PV.bool (((ByteArray.mk b.toArray).toList == (ByteArray.mk b.toArray).toList))) K = _
  rw [beq_self_eq_true]
  rfl
theorem ulp {z : Bool} {b : List UInt8} {n : Nat} {k : IntKind} {K : Heap} (h : n ≤ b.length) : run (slL 1 (.slice false z 1 (bytes b)) none (some (.int k n))) K = some (.ok (.slice false z 1 (bytes (b.take n))) K) := by
  unfold run slL
  have e1 : bnd (bytes b).length (some (.int k n)) = some n := by simp [bnd]
  have e2 : bnd 0 none = some 0 := rfl
  have e3 : (bytes b).length = b.length := by simp
  dsimp only
  rw [e1, e2, e3]
  dsimp only
  rw [decide_eq_true h, decide_eq_true (Nat.zero_le n), beq_self_eq_true]
  cases z <;> simp [M.pure, List.map_take]
theorem rd_get {at_ n i : Nat} (h : i < n) : (rd D at_ n)[i]? = some (D (at_ + i)) := by simp [rd, h]
theorem rd_ext {D D' : Nat → UInt8} {x y n : Nat} (h : ∀ i, i < n → D (x + i) = D' (y + i)) : rd D x n = rd D' y n := by
  unfold rd
  apply List.map_congr_left
  intro i hi
  exact h i (List.mem_range.mp hi)
theorem ulb {x n : Nat} : wr D x (rd D x n) 0 = D := by
  funext k
  unfold wr
  rw [u2g]
  split
  · rename_i h
    have : (rd D x n)[k - x]? = some (D k) := by rw [rd_get (by omega)]; congr 2; omega
    simp [List.getD, this]
  · rfl
theorem rd_wr {x n : Nat} {b : List UInt8} (h : n ≤ b.length) : rd (wr D x b 0) x n = b.take n := by
  apply List.ext_getElem?
  intro i
  by_cases hi : i < n
  · rw [rd_get hi, List.getElem?_take_of_lt hi]
    unfold wr
    rw [if_pos (by omega), show x + i - x = i by omega]
    have hi2 : i < b.length := by omega
    simp [List.getD, hi2]
  · rw [List.getElem?_eq_none (by rw [u2g]; omega), List.getElem?_eq_none (by simp; omega)]
theorem ubc {x n : Nat} {b : List UInt8} (h : b.length = n) : rd (wr D x b 0) x n = b := by
  rw [rd_wr (by omega), List.take_of_length_le (by omega)]
theorem round {x y n : Nat} (h : ¬ (x < y + n ∧ y < x + n)) {u : UInt8} : rd (wr (fl (wr D y (rd D x n) 0) x n u 0) x (rd (fl (wr D y (rd D x n) 0) x n u 0) y n) 0) x n = rd D x n := by
  rw [ubc u2g]
  have : rd (fl (wr D y (rd D x n) 0) x n u 0) y n = rd (wr D y (rd D x n) 0) y n := by
    refine rd_ext fun i hi => ?_
    unfold fl
    rw [if_neg (by omega)]
  rw [this, ubc u2g]
end Go.Proofs.Ytjcffopjohkmaaa.Pi.Q
namespace Go.Proofs.Ytjcffopjohkmaaa.Pi.Q
open Go Go.Proofs.Ytjcffopjohkmaaa.Pi
attribute [local congr] ite_congr
theorem ug0 {H : Heap} {z : Bool} {b : List UInt8} {x y n0 : Nat} (hb : b.length ≤ 140737488351232) (h1 : x ≤ 65535) (h2 : y ≤ 65535) (h3 : n0 ≤ 65535) :
    ∃ K, run (C u0u [.slice false z 1 (bytes b), .int .u16 x, .int .u16 y, .int .u16 n0]) H = some (.ok (.bool true) K) := by
  have hlen : (bytes b).length = b.length := by simp
  obtain ⟨c, K1, pgs, hn, hm1, hp, hcl, hl, hf⟩ := new_ok (H := H) (l0 := false) (hx := false) (mn := 1) (mx := 0) (cap := 1) (by decide) (by decide) (by decide) (by decide)
  have hn : run (C u1k [.agg [.bool false, .int .u64 1, .int .u64 0, .bool false], .int .u64 1]) H = some (.ok (.tup [.ptr c 0, .int .i64 0]) K1) := hn
  have hp64 : pgs.length ≤ 64 := by omega
  have hw := ueq (z := z) (b := b) (at_ := x) hm1 hp64 hb (by omega)
  have aw : ∀ H, run (C u0m []) H = some (.ok (.bool true) H) := fun H => ukg
  rw [hp] at hw
  by_cases hfit : x + b.length ≤ 65536
  · rw [if_pos (by omega)] at hw
    obtain ⟨K2, hw, hm2, hs2⟩ := hw
    obtain ⟨n, hnn⟩ : ∃ n, n = min n0 b.length := ⟨_, rfl⟩
    have hmin : (if (b.length : Int) < n0 then (b.length : Int) else n0) = n := by split <;> omega
    obtain ⟨Dw, hDw⟩ : ∃ Dw, Dw = wr (fun _ => 0) x b 0 := ⟨_, rfl⟩
    rw [← hDw] at hm2
    have hr1 := u9v hm2 hp64 (at_ := 0) (n := 65536) (by omega) (by omega)
    rw [if_pos (by omega)] at hr1
    have hr1 : run (C u07 [.ptr c 0, .int .u64 0, .int .u64 65536]) K2 = some (.ok (.tup [.slice true false 1 (bytes (rd Dw 0 65536)), .int .i64 0]) K2) := hr1
    obtain ⟨K3, hc3, hm3, hs3⟩ := udh hm2 hp64 (dst := x) (src := x) (n := n) (by omega) (by omega) (by omega) (by omega) (by omega)
    rw [ulb] at hm3
    have hr3 := u9v hm3 hp64 (at_ := 0) (n := 65536) (by omega) (by omega)
    rw [if_pos (by omega)] at hr3
    have hr3 : run (C u07 [.ptr c 0, .int .u64 0, .int .u64 65536]) K3 = some (.ok (.tup [.slice true false 1 (bytes (rd Dw 0 65536)), .int .i64 0]) K3) := hr3
    obtain ⟨R, hR⟩ : ∃ R, R = rd Dw 0 65536 := ⟨_, rfl⟩
    rw [← hR] at hr1 hr3
    have hne : ∀ K, run (bi .neq .none (.str ⟨R.toArray⟩) (.str ⟨R.toArray⟩)) K = some (.ok (.bool false) K) := fun K => uks rfl
    by_cases d1 : 65536 < y + n
    · have c1 : ((65536 : Int) < y + n) = True := eq_true (by omega)
      obtain ⟨K', hK'⟩ := u31 (H := H) (v := .bool true) (K := K3)
      refine ⟨K', ?_⟩
      rw [← hK', u0i]
      simp +contextual -dsimp (disch := omega) only [↓goDown, goUp, cr, simprocAttr, u1c, hn, u50, hw, hlen, hmin, hr1, hc3, hr3, ua0, hne, aw, c1, decide_true]
    have c1 : ((65536 : Int) < y + n) = False := eq_false (by omega)
    by_cases d2 : x < y + n ∧ y < x + n
    · have c2 : ((x : Int) < y + n) = True := eq_true (by omega)
      have c3 : ((y : Int) < x + n) = True := eq_true (by omega)
      obtain ⟨K', hK'⟩ := u31 (H := H) (v := .bool true) (K := K3)
      refine ⟨K', ?_⟩
      rw [← hK', u0i]
      simp +contextual -dsimp (disch := omega) only [↓goDown, goUp, cr, simprocAttr, u1c, hn, u50, hw, hlen, hmin, hr1, hc3, hr3, ua0, hne, aw, c1, c2, c3, decide_true, decide_false]
    obtain ⟨K4, hc4, hm4, hs4⟩ := udh hm3 hp64 (dst := y) (src := x) (n := n) (by omega) (by omega) (by omega) (by omega) (by omega)
    have hf5 := ul4 (x := 0) (at_ := x) (n := n) hm4 hp64 (by omega) (by omega)
    rw [if_pos (by omega)] at hf5
    obtain ⟨K5, hf5, hm5, hs5⟩ := hf5
    have hf5 : run (C u0n [.ptr c 0, .int .u64 x, .int .u8 0, .int .u64 n]) K4 = some (.ok (.int .i64 0) K5) := hf5
    obtain ⟨K6, hc6, hm6, hs6⟩ := udh hm5 hp64 (dst := x) (src := y) (n := n) (by omega) (by omega) (by omega) (by omega) (by omega)
    have hr6 := u9v hm6 hp64 (at_ := x) (n := n) (by omega) (by omega)
    rw [if_pos (by omega), round d2] at hr6
    have hb6 : rd Dw x n = b.take n := by rw [hDw]; exact rd_wr (by omega)
    have hsl : ∀ K, run (slL 1 (.slice false z 1 (bytes b)) none (some (.int .u64 n))) K = some (.ok (.slice false z 1 (bytes (b.take n))) K) := fun K => ulp (by omega)
    have heq : ∀ K, run (bi .eql .none (.str ⟨(b.take n).toArray⟩) (.str ⟨(b.take n).toArray⟩)) K = some (.ok (.bool true) K) := fun K => ukz rfl
    rw [hb6] at hr6
    obtain ⟨K', hK'⟩ := u31 (H := H) (v := .bool true) (K := K6)
    refine ⟨K', ?_⟩
    rw [← hK', u0i]
    by_cases d3 : x < y + n
    · have c2 : ((x : Int) < y + n) = True := eq_true (by omega)
      have c3 : ((y : Int) < x + n) = False := eq_false (by omega)
      simp +contextual -dsimp (disch := omega) only [↓goDown, goUp, cr, simprocAttr, u1c, hn, u50, hw, hlen, hmin, hr1, hc3, hr3, ua0, hne, aw, c1, c2, c3, decide_true, decide_false, hc4, hf5, hc6, hr6, hsl, heq]
    · have c2 : ((x : Int) < y + n) = False := eq_false (by omega)
      simp +contextual -dsimp (disch := omega) only [↓goDown, goUp, cr, simprocAttr, u1c, hn, u50, hw, hlen, hmin, hr1, hc3, hr3, ua0, hne, aw, c1, c2, decide_true, decide_false, hc4, hf5, hc6, hr6, hsl, heq]
  · rw [if_neg (by omega)] at hw
    obtain ⟨K', hK'⟩ := u31 (H := H) (v := .bool true) (K := K1)
    refine ⟨K', ?_⟩
    rw [← hK', u0i]
    simp +contextual -dsimp (disch := omega) only [↓goDown, goUp, cr, simprocAttr, u1c, hn, u50, uir, hw, aw, decide_true]
theorem u16_of {n : Int} (h : (Lit.int .u16 n).wf = true) : ∃ m : Nat, n = m ∧ m ≤ 65535 := by
  simp [Lit.wf, IntKind.min, IntKind.max, IntKind.bits, IntKind.signed] at h
  exact ⟨n.toNat, by omega, by omega⟩
theorem copies_true {H : Heap} {z : Bool} {b : List UInt8} {a1 a2 a3 : Int} (hb : b.length ≤ 140737488351232) (w1 : (Lit.int .u16 a1).wf = true) (w2 : (Lit.int .u16 a2).wf = true) (w3 : (Lit.int .u16 a3).wf = true) :
    ∃ K, C u0u [BS z b, .int .u16 a1, .int .u16 a2, .int .u16 a3] H = some (.ok (.bool true) K) := by
  obtain ⟨n1, rfl, h1⟩ := u16_of w1
  obtain ⟨n2, rfl, h2⟩ := u16_of w2
  obtain ⟨n3, rfl, h3⟩ := u16_of w3
  exact ug0 hb h1 h2 h3
end Go.Proofs.Ytjcffopjohkmaaa.Pi.Q
namespace Go.Proofs.Ytjcffopjohkmaaa.Pi
open Go.ChangeShapes Go.WideShapes
def imOf (w : World) (b o : Nat) : Option Value := w.cell? ⟨b, o, none⟩
theorem imOf_ok (w : World) : ∀ b o v, imOf w b o = some v → w.cell? ⟨b, o, none⟩ = some v := fun _ _ _ h => h
def u3f (zs : List Int) : List UInt8 := zs.map fun n => UInt8.ofNat n.toNat
theorem wf_u8 {n : Int} (h : (Lit.int .u8 n).wf = true) : 0 ≤ n ∧ n < 256 := by
  simp [Lit.wf, IntKind.min, IntKind.max, IntKind.bits, IntKind.signed] at h
  omega
theorem ui6 {P : Program} {w : World} {base : Nat} {t e : TypeId} {a : Addr} {len cap : Nat} (ht : P.underlying t = some (.slice e)) (h : Value.okWide P w .any base t (.slice (some a) len cap)) : a.spot = none := by
  unfold Value.okWide at h
  simp only [ht] at h
  unfold Cell.okWide at h
  simp only [ht] at h
  unfold Cell.ok at h
  simp only [ht] at h
  exact h.2.2.2.1
theorem open_bytes {H : Type} {enc : TypeId × Value → H} {P : Program} {W : World} {base : Nat} {spare : Nat → Bool} {held : Bool} {t e : TypeId} {v : Value} {d : DataW H} {ps : List MemPlace} {ts : List TypeId} {ds : List (DataW H)} {j : Nat}
    (hsz : (DataW.weightsEach P ts ds).all (· ≤ reachBytes) = true) (htj : ts[j]? = some t) (hd : ds[j]? = some d) (hu : P.underlying t = some (.slice e)) (he : P.underlying e = some (.int .u8)) (hc : P.cellsOf e = 1) (hB : P.bytesOf e = 1)
    (hok : Value.okWide P W .any base t v) {b0 : Nat} (h : DataW.Trod enc P W b0 spare held t v d ps) :
    ∃ z b, b.length ≤ 140737488351232 ∧ Rep io0 (imOf W) (BS z b) v ∧ ∀ x ∈ ps, x.block < W.heap.size := by
  obtain ⟨a, len, cap, rfl⟩ := okWide_slice hu hok
  have k := h
  have lt : ∀ x ∈ ps, x.block < W.heap.size := by obtain ⟨m, hm⟩ := k; exact DataW.trod_lt m _ _ _ hm
  obtain ⟨fuel, hf⟩ := h
  rcases open_ints hu he hc hf with ⟨hcs, _⟩ | ⟨x, l, c, zs, hcs, _, hl, hm, hz, hx, hcell, hwz⟩
  · simp [Value.cells] at hcs
    obtain ⟨rfl, rfl, rfl⟩ := hcs
    exact ⟨true, [], by simp, .flat (.snil 1), lt⟩
  · simp [Value.cells] at hcs
    obtain ⟨rfl, rfl, rfl⟩ := hcs
    have hsp := ui6 hu hok
    obtain ⟨g, o, sp⟩ := x
    obtain rfl : sp = none := hsp
    have hlz : len ≤ zs.length := by rw [hz]; split <;> omega
    refine ⟨false, u3f (zs.take len), ?_, ?_, lt⟩
    · obtain ⟨hx, _⟩ := Prod.mk.inj hx
      subst hx
      have z := sized_slice hsz htj hd hu
      rw [hB] at z
      have h1 : (lits (H := H) .u8 (zs.take len)).length + (lits (H := H) .u8 (zs.drop len)).length = zs.length := by
        simp [lits]
        omega
      rw [h1] at z
      simp only [u3f, List.length_map, List.length_take]
      have : reachBytes = 140737488351232 := rfl
      omega
    · have hln : (bytes (u3f (zs.take len))).length = len := by simp [bytes, u3f, hlz]
      have hget : ∀ (i : Nat) (x : PV), (bytes (u3f (zs.take len)))[i]? = some x → i < len ∧ x = .int .u8 (zs.getD i 0) := by
        intro i x hx
        have hi : i < len := by
          have := (List.getElem?_eq_some_iff.mp hx).1
          omega
        refine ⟨hi, ?_⟩
        have hiz : i < zs.length := by omega
        have e1 : (bytes (u3f (zs.take len)))[i]? = some (byt (UInt8.ofNat (zs[i]).toNat)) := by
          simp [bytes, u3f, hi, hiz]
        rw [e1] at hx
        obtain rfl := Option.some.inj hx
        have hw := wf_u8 (hwz _ (List.getElem_mem hiz))
        have e2 : zs.getD i 0 = zs[i] := by simp [List.getD, hiz]
        rw [e2]
        unfold byt
        congr 1
        have : (UInt8.ofNat (zs[i]).toNat).toNat = (zs[i]).toNat := by
          rw [UInt8.toNat_ofNat']
          omega
        rw [this]
        omega
      have hadd : ∀ i : Nat, i < len → W.cell? ⟨g, o + i, none⟩ = some (.int .u8 (zs.getD i 0)) := by
        intro i hi
        have := hcell i (by omega)
        unfold Addr.add at this
        split at this
        · rename_i h0
          subst h0
          simpa using this
        · exact this
      have hrep := RepF.slice (im := imOf W) (g := g) (o := o) (cap := cap) (sz := 1) (xs := bytes (u3f (zs.take len))) (fun i _ => .int .u8 (zs.getD i 0)) (.inl rfl) (by omega)
        (fun i x hx => by rw [(hget i x hx).2]; rfl)
        (fun i x j c hx hc => by
          obtain ⟨hi, rfl⟩ := hget i x hx
          have hj : j = 0 := by
            have := (List.getElem?_eq_some_iff.mp hc).1
            simp [PV.cells] at this
            omega
          subst hj
          unfold imOf
          simpa using hadd i hi)
        (fun i x j c hx hc => by
          obtain ⟨hi, rfl⟩ := hget i x hx
          have hj : j = 0 := by
            have := (List.getElem?_eq_some_iff.mp hc).1
            simp [PV.cells] at this
            omega
          subst hj
          simp [PV.cells] at hc
          subst hc
          exact .int _ _)
      rw [hln] at hrep
      exact .flat hrep
end Go.Proofs.Ytjcffopjohkmaaa.Pi
namespace Go.Proofs.Ytjcffopjohkmaaa.Pi
open Go.ChangeShapes Go.WideShapes
def litPV : Lit → PV
  | .int k n => .int k n
  | .bool b => .bool b
  | .string s => .str ⟨s.toArray⟩
  | _ => .undef
def wrapE (P : Program) (e : TypeId) (cs : List PV) : PV :=
  match tagg P e with
  | some _ => .agg cs
  | none => cs.headD .undef
mutual
def toldD {H : Type} (P : Program) : TypeId → DataW H → List PV
  | t, .lit l => [litPV l]
  | t, .nil => match P.underlying t with
    | some (.slice e) => [.slice false true 0 []]
    | _ => [.nil]
  | t, .slice elems _ => match P.underlying t with
    | some (.slice e) => [.slice false false (P.cellsOf e) (toldE P e elems)]
    | _ => []
  | t, .agg parts => match P.underlying t with
    | some (.struct fs) => toldF P fs.toList parts
    | _ => []
  | _, _ => []
def toldE {H : Type} (P : Program) (e : TypeId) : List (DataW H) → List PV
  | [] => []
  | d :: r => wrapE P e (toldD P e d) :: toldE P e r
def toldF {H : Type} (P : Program) : List Field → List (DataW H) → List PV
  | f :: fs, d :: r => toldD P f.type d ++ toldF P fs r
  | _, _ => []
end
def laidF (P : Program) : Nat → List Field → Option Nat
  | o, [] => some o
  | o, f :: r => bif f.offset == o then laidF P (o + P.cellsOf f.type) r else none
def plainT (P : Program) (T : List TypeId) (t : TypeId) : Bool :=
  match P.underlying t with
  | some .bool | some (.int _) | some .string => P.cellsOf t == 1 && (tagg P t).isNone
  | some (.slice e) => T.contains e && (decide (0 < P.cellsOf e) && (P.cellsOf t == 1 && (tagg P t).isNone))
  | some (.struct fs) => fs.toList.all (fun f => T.contains f.type) && (laidF P 0 fs.toList == some (P.cellsOf t) && (tagg P t).isSome)
  | _ => false
def ToldOk (W : World) (cs : List Value) (ps : List PV) : Prop :=
  ps.length = cs.length ∧ ∀ (j : Nat) (c : PV), ps[j]? = some c → isCell c = true ∧ ∀ v, cs[j]? = some v → RepF (imOf W) c v
theorem ToldOk.one {W : World} {c : PV} {v : Value} (h1 : isCell c = true) (h2 : RepF (imOf W) c v) : ToldOk W [v] [c] :=
  ⟨rfl, fun j d hd => by
    cases j with
    | zero => simp at hd; subst hd; exact ⟨h1, fun u hu => by simp at hu; subst hu; exact h2⟩
    | succ j => simp at hd⟩
variable {H : Type} {enc : TypeId × Value → H} {P : Program} {W : World} {base : Nat} {spare : Nat → Bool} {held : Bool} {T : List TypeId}
theorem ToldOk.append {W : World} {cs ds : List Value} {ps qs : List PV} (h : ToldOk W cs ps) (k : ToldOk W ds qs) : ToldOk W (cs ++ ds) (ps ++ qs) := by
  refine ⟨by simp [h.1, k.1], fun j c hc => ?_⟩
  by_cases hj : j < ps.length
  · rw [List.getElem?_append_left hj] at hc
    obtain ⟨h1, h2⟩ := h.2 j c hc
    refine ⟨h1, fun v hv => h2 v ?_⟩
    rwa [List.getElem?_append_left (by rw [← h.1]; exact hj)] at hv
  · rw [List.getElem?_append_right (by omega)] at hc
    obtain ⟨h1, h2⟩ := k.2 _ c hc
    refine ⟨h1, fun v hv => h2 v ?_⟩
    rwa [List.getElem?_append_right (by rw [← h.1]; omega), ← h.1] at hv
end Go.Proofs.Ytjcffopjohkmaaa.Pi
namespace Go.Proofs.Ytjcffopjohkmaaa.Pi.Q
open Go Go.Proofs.Ytjcffopjohkmaaa.Pi
attribute [local congr] ite_congr
structure VT where
  num : Int
  nul : Bool
  heap : Int
  deriving DecidableEq
theorem ns (p : Nat) : ((p + 1 : Nat) : Int) = (p : Int) + 1 := rfl
end Go.Proofs.Ytjcffopjohkmaaa.Pi.Q
namespace Go.Proofs.Ytjcffopjohkmaaa.Pi.Q
open Go Go.Proofs.Ytjcffopjohkmaaa.Pi
attribute [local congr] ite_congr
structure BK where
  ty : Int
  res : VT
  deriving DecidableEq
end Go.Proofs.Ytjcffopjohkmaaa.Pi.Q
namespace Go.Proofs.Ytjcffopjohkmaaa.Pi.Q
open Go Go.Proofs.Ytjcffopjohkmaaa.Pi
attribute [local congr] ite_congr
structure FT where
  ty : VT
  mu : Bool
  deriving DecidableEq
end Go.Proofs.Ytjcffopjohkmaaa.Pi.Q
namespace Go.Proofs.Ytjcffopjohkmaaa.Pi.Q
open Go Go.Proofs.Ytjcffopjohkmaaa.Pi
attribute [local congr] ite_congr
structure CT where
  kind : Int
  ps : List VT
  rs : List VT
  fs : List FT
  deriving DecidableEq
structure ST where
  fin : Bool
  sup : List Int
  comp : CT
  deriving DecidableEq
end Go.Proofs.Ytjcffopjohkmaaa.Pi.Q
namespace Go.Proofs.Ytjcffopjohkmaaa.Pi
structure GL (α : Type) where
  z : Bool
  l : List α
  deriving DecidableEq
section
variable {z : Bool} {sz : Nat} {l : List PV} {H : Heap}
end
end Go.Proofs.Ytjcffopjohkmaaa.Pi
namespace Go.Proofs.Ytjcffopjohkmaaa.Pi
open Go.ChangeShapes Go.WideShapes
mutual
def bulk {H : Type} : DataW H → Nat
  | .lit (.string bytes) => bytes.length + 1
  | .lit _ => 1
  | .nil => 1
  | .ptr d => bulk d + 1
  | .slice elems spare => bulkL elems + bulkL spare + 1
  | .agg parts => bulkL parts + 1
  | _ => 1
def bulkL {H : Type} : List (DataW H) → Nat
  | [] => 0
  | d :: r => bulk d + bulkL r
end
section
variable {H : Type} {enc : TypeId × Value → H} {P : Program} {W : World} {base : Nat} {spare : Nat → Bool} {held : Bool} {A B : Type} {n : Nat} {t e : TypeId}
structure DecArgs (H : Type) where
  enc : TypeId × Value → H
  P : Program
  W : World
  base : Nat
  spare : Nat → Bool
  held : Bool
variable (G : DecArgs H)
def Dec (n : Nat) (t : TypeId) (cells : A → List PV) (ok : A → Prop) (ms : A → Nat) : Prop :=
  ∀ cs x, DataW.trod G.enc G.P G.W G.base G.spare G.held n t cs = some x → ∃ a, toldD G.P t x.1 = cells a ∧ ok a ∧ ms a ≤ bulk x.1
variable {G}
theorem Dec.map {cells : A → List PV} {ok : A → Prop} {ms : A → Nat} (h : Dec G n t cells ok ms) (f : A → B) {cB : B → List PV} {okB : B → Prop} {mB : B → Nat} (hc : ∀ a, cells a = cB (f a)) (ho : ∀ a, ok a → okB (f a)) (hm : ∀ a, mB (f a) ≤ ms a) : Dec G n t cB okB mB := by
  intro cs x hx
  obtain ⟨a, a1, a2, a3⟩ := h cs x hx
  exact ⟨f a, by rw [a1, hc], ho a a2, Nat.le_trans (hm a) a3⟩
end
end Go.Proofs.Ytjcffopjohkmaaa.Pi
namespace Go.Proofs.Ytjcffopjohkmaaa.Pi
open Go.ChangeShapes Go.WideShapes
theorem args_nil {im : Nat → Nat → Option Value} : ArgsOk (gOf im) [] #[] := ⟨rfl, fun j p v hp => by simp at hp⟩
theorem args_cons {im : Nat → Nat → Option Value} {p : PV} {v : Value} {ps : List PV} {vs : List Value} (h : Rep io0 im p v) (hs : strip p = p) (hr : ArgsOk (gOf im) ps vs.toArray) : ArgsOk (gOf im) (p :: ps) (v :: vs).toArray := by
  refine ⟨by have := hr.size; simp at this ⊢; exact this, fun j q u hq hu => ?_⟩
  cases j with
  | zero =>
    simp at hq hu
    subst hq; subst hu
    exact ⟨.one (.pure h), hs⟩
  | succ j =>
    exact hr.rep j q u (by simpa using hq) (by simpa using hu)
end Go.Proofs.Ytjcffopjohkmaaa.Pi
