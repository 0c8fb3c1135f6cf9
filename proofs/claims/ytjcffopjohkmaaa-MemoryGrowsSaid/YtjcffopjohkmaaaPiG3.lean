/- What the law rests on, part 4 of 4: a reading of the program's code over told data, and what it comes to. -/
import Derived.Test.YtjcffopjohkmaaaPiG2
set_option linter.unusedVariables false
set_option linter.unusedSimpArgs false
set_option maxRecDepth 100000
namespace Go.Proofs.Ytjcffopjohkmaaa.Pi
theorem goDown : type_of% (And.intro (And.intro (And.intro (And.intro (And.intro @run_bind @udr) (And.intro @u90 @uat)) (And.intro (And.intro @uao
    @run_nb) (And.intro @nbR_ok @ui6))) (And.intro (And.intro (And.intro @u6n @u91) (And.intro @u6r @uah)) (And.intro
    (And.intro @u4z @ub3) (And.intro @uf3 (And.intro @uey @uix))))) (And.intro (And.intro (And.intro (And.intro @uhv
    @ugo) (And.intro @run_pure @uiq)) (And.intro (And.intro @ue0 @u6t) (And.intro @ubn @u93))) (And.intro (And.intro
    (And.intro @u68 @u85) (And.intro @uhn @udg)) (And.intro (And.intro @uc6 @ual) (And.intro @ui9 (And.intro
    @ued @uep)))))) := (And.intro (And.intro (And.intro (And.intro (And.intro @run_bind @udr) (And.intro @u90 @uat)) (And.intro (And.intro @uao
    @run_nb) (And.intro @nbR_ok @ui6))) (And.intro (And.intro (And.intro @u6n @u91) (And.intro @u6r @uah)) (And.intro
    (And.intro @u4z @ub3) (And.intro @uf3 (And.intro @uey @uix))))) (And.intro (And.intro (And.intro (And.intro @uhv
    @ugo) (And.intro @run_pure @uiq)) (And.intro (And.intro @ue0 @u6t) (And.intro @ubn @u93))) (And.intro (And.intro
    (And.intro @u68 @u85) (And.intro @uhn @udg)) (And.intro (And.intro @uc6 @ual) (And.intro @ui9 (And.intro
    @ued @uep))))))
theorem goUp : type_of% (And.intro (And.intro (And.intro (And.intro (And.intro (And.intro (And.intro @u8i (And.intro @uer @run_al)) (And.intro (And.intro @run_bx
    @run_ld) (And.intro @run_st @uef))) (And.intro (And.intro (And.intro @ueq @uds) (And.intro @ubp @u6m)) (And.intro
    (And.intro @ldB_t @ldB_f) (And.intro @stB_is @ueh)))) (And.intro (And.intro (And.intro @ufk (And.intro @u4x @u9g)) (And.intro
    (And.intro @u55 @ua5) (And.intro @ufn @u9t))) (And.intro (And.intro (And.intro @u6a @set_set) (And.intro @u7b @cut0))
    (And.intro (And.intro @cut1 @cut2) (And.intro @cutA0 @cutA1))))) (And.intro (And.intro (And.intro (And.intro @cutA2 (And.intro @u48 @u2i))
    (And.intro (And.intro @w_i64 @w_u64) (And.intro @w_u8 @w_u32))) (And.intro (And.intro (And.intro @w_i32 @uim) (And.intro @uh4 @uf7))
    (And.intro (And.intro @ud0 @run_fa) (And.intro @uiv @ufg)))) (And.intro (And.intro (And.intro @nc_ptr (And.intro @uj5 @nc_nil))
    (And.intro (And.intro @run_mi @run_pn) (And.intro @uhu @uip))) (And.intro (And.intro (And.intro @uho @uik) (And.intro @uee
    @ue2)) (And.intro (And.intro @uet @ubz) (And.intro @u8s @uag)))))) (And.intro (And.intro (And.intro (And.intro
    (And.intro @ubi (And.intro @ub5 @udo)) (And.intro (And.intro @u8n @u7e) (And.intro @u7x @u8h)))
    (And.intro (And.intro (And.intro @u8g @ue3) (And.intro @uaa @u83)) (And.intro (And.intro @uaj @uba) (And.intro
    @uc9 @uhz)))) (And.intro (And.intro (And.intro @uc1 (And.intro @u87 @uad)) (And.intro (And.intro @uak
    @uax) (And.intro @uhq @uav))) (And.intro (And.intro (And.intro @u80 @ub2) (And.intro @uc3 @ucp))
    (And.intro (And.intro @uhm @u95) (And.intro @u7p @u82))))) (And.intro (And.intro (And.intro (And.intro @u88
    (And.intro @u8o @uev)) (And.intro (And.intro @u7m @u5g) (And.intro @u6d @u6j))) (And.intro (And.intro
    (And.intro @u7t @ua8) (And.intro @ues @ubr)) (And.intro (And.intro @ufl @ue9) (And.intro @ufc @low_fn))))
    (And.intro (And.intro (And.intro @u72 (And.intro @u5n @u7k)) (And.intro (And.intro @u6h @u6e) (And.intro
    @ubd @u7i))) (And.intro (And.intro (And.intro @u5c @u6z) (And.intro @u7q @u7o)) (And.intro
    (And.intro @u75 @u44) (And.intro @u3c @u43))))))) (And.intro (And.intro (And.intro (And.intro (And.intro
    (And.intro @u41 (And.intro @u45 @u58)) (And.intro (And.intro @ucb @u8k) (And.intro @uaz
    @ubl))) (And.intro (And.intro (And.intro @ubj @ucz) (And.intro @ucq @u8t)) (And.intro (And.intro @uau
    @ubx) (And.intro @uay @uit)))) (And.intro (And.intro (And.intro @u6w (And.intro @u5j @u77)) (And.intro
    (And.intro @u6i @u7n) (And.intro @ucr @u9w))) (And.intro (And.intro (And.intro @u76 @uek) (And.intro @run_bd
    @u67)) (And.intro (And.intro @u5d @ub1) (And.intro @run_bs @uj8))))) (And.intro (And.intro (And.intro (And.intro
    @uh6 (And.intro @uf5 @uf2)) (And.intro (And.intro @ubm @u6o) (And.intro @u79 @u7h))) (And.intro
    (And.intro (And.intro @u7j @u5l) (And.intro @u5i @u4t)) (And.intro (And.intro @uco @u8b)
    (And.intro @ube @u6l)))) (And.intro (And.intro (And.intro @ucm (And.intro @uap @u89)) (And.intro (And.intro
    @ubo @u40) (And.intro @u6k @udx))) (And.intro (And.intro (And.intro @u7s @uar) (And.intro @u8e
    @u73)) (And.intro (And.intro @u8y @u5m) (And.intro @u8l @u8w)))))) (And.intro (And.intro (And.intro
    (And.intro (And.intro @u98 (And.intro @u3e @u5b)) (And.intro (And.intro @ubq @bi_add) (And.intro @bi_sub
    @bi_mul))) (And.intro (And.intro (And.intro @bi_eql @bi_neq) (And.intro @bi_lss @bi_leq)) (And.intro (And.intro @bi_gtr @bi_geq) (And.intro
    @uhp @uir)))) (And.intro (And.intro (And.intro @uhr (And.intro @uj4 @un_not)) (And.intro (And.intro @ucg @uhy) (And.intro
    @mx_int @mn_int))) (And.intro (And.intro (And.intro @cv_int @Bool.and_true) (And.intro @Bool.true_and @Bool.and_self)) (And.intro (And.intro
    @Bool.not_true @Bool.not_false) (And.intro @Bool.and_false @Bool.false_and))))) (And.intro (And.intro (And.intro (And.intro @Bool.or_true
    (And.intro @Bool.or_false @Bool.true_or)) (And.intro (And.intro @Bool.false_or @Bool.false_eq_true) (And.intro @decide_eq_true_eq @and_self)))
    (And.intro (And.intro (And.intro @and_true @true_and) (And.intro @not_true_eq_false @not_false_eq_true)) (And.intro (And.intro @Nat.zero_add
    @Nat.add_zero) (And.intro @Nat.le_refl @Nat.lt_add_one)))) (And.intro (And.intro (And.intro (And.intro @Nat.lt_irrefl @and_false) (And.intro
    @false_and @Bool.not_eq_true')) (And.intro (And.intro @Bool.not_eq_eq_eq_not @decide_eq_false_iff_not) (And.intro @Bool.and_eq_true
    @Bool.or_eq_true))) (And.intro (And.intro (And.intro @decide_true @decide_false) (And.intro @u4g @u4e)) (And.intro (And.intro @u61
    @u7d) (And.intro @u5q @u9c)))))))) := (And.intro (And.intro (And.intro (And.intro (And.intro (And.intro (And.intro @u8i (And.intro @uer @run_al)) (And.intro (And.intro @run_bx
    @run_ld) (And.intro @run_st @uef))) (And.intro (And.intro (And.intro @ueq @uds) (And.intro @ubp @u6m)) (And.intro
    (And.intro @ldB_t @ldB_f) (And.intro @stB_is @ueh)))) (And.intro (And.intro (And.intro @ufk (And.intro @u4x @u9g)) (And.intro
    (And.intro @u55 @ua5) (And.intro @ufn @u9t))) (And.intro (And.intro (And.intro @u6a @set_set) (And.intro @u7b @cut0))
    (And.intro (And.intro @cut1 @cut2) (And.intro @cutA0 @cutA1))))) (And.intro (And.intro (And.intro (And.intro @cutA2 (And.intro @u48 @u2i))
    (And.intro (And.intro @w_i64 @w_u64) (And.intro @w_u8 @w_u32))) (And.intro (And.intro (And.intro @w_i32 @uim) (And.intro @uh4 @uf7))
    (And.intro (And.intro @ud0 @run_fa) (And.intro @uiv @ufg)))) (And.intro (And.intro (And.intro @nc_ptr (And.intro @uj5 @nc_nil))
    (And.intro (And.intro @run_mi @run_pn) (And.intro @uhu @uip))) (And.intro (And.intro (And.intro @uho @uik) (And.intro @uee
    @ue2)) (And.intro (And.intro @uet @ubz) (And.intro @u8s @uag)))))) (And.intro (And.intro (And.intro (And.intro
    (And.intro @ubi (And.intro @ub5 @udo)) (And.intro (And.intro @u8n @u7e) (And.intro @u7x @u8h)))
    (And.intro (And.intro (And.intro @u8g @ue3) (And.intro @uaa @u83)) (And.intro (And.intro @uaj @uba) (And.intro
    @uc9 @uhz)))) (And.intro (And.intro (And.intro @uc1 (And.intro @u87 @uad)) (And.intro (And.intro @uak
    @uax) (And.intro @uhq @uav))) (And.intro (And.intro (And.intro @u80 @ub2) (And.intro @uc3 @ucp))
    (And.intro (And.intro @uhm @u95) (And.intro @u7p @u82))))) (And.intro (And.intro (And.intro (And.intro @u88
    (And.intro @u8o @uev)) (And.intro (And.intro @u7m @u5g) (And.intro @u6d @u6j))) (And.intro (And.intro
    (And.intro @u7t @ua8) (And.intro @ues @ubr)) (And.intro (And.intro @ufl @ue9) (And.intro @ufc @low_fn))))
    (And.intro (And.intro (And.intro @u72 (And.intro @u5n @u7k)) (And.intro (And.intro @u6h @u6e) (And.intro
    @ubd @u7i))) (And.intro (And.intro (And.intro @u5c @u6z) (And.intro @u7q @u7o)) (And.intro
    (And.intro @u75 @u44) (And.intro @u3c @u43))))))) (And.intro (And.intro (And.intro (And.intro (And.intro
    (And.intro @u41 (And.intro @u45 @u58)) (And.intro (And.intro @ucb @u8k) (And.intro @uaz
    @ubl))) (And.intro (And.intro (And.intro @ubj @ucz) (And.intro @ucq @u8t)) (And.intro (And.intro @uau
    @ubx) (And.intro @uay @uit)))) (And.intro (And.intro (And.intro @u6w (And.intro @u5j @u77)) (And.intro
    (And.intro @u6i @u7n) (And.intro @ucr @u9w))) (And.intro (And.intro (And.intro @u76 @uek) (And.intro @run_bd
    @u67)) (And.intro (And.intro @u5d @ub1) (And.intro @run_bs @uj8))))) (And.intro (And.intro (And.intro (And.intro
    @uh6 (And.intro @uf5 @uf2)) (And.intro (And.intro @ubm @u6o) (And.intro @u79 @u7h))) (And.intro
    (And.intro (And.intro @u7j @u5l) (And.intro @u5i @u4t)) (And.intro (And.intro @uco @u8b)
    (And.intro @ube @u6l)))) (And.intro (And.intro (And.intro @ucm (And.intro @uap @u89)) (And.intro (And.intro
    @ubo @u40) (And.intro @u6k @udx))) (And.intro (And.intro (And.intro @u7s @uar) (And.intro @u8e
    @u73)) (And.intro (And.intro @u8y @u5m) (And.intro @u8l @u8w)))))) (And.intro (And.intro (And.intro
    (And.intro (And.intro @u98 (And.intro @u3e @u5b)) (And.intro (And.intro @ubq @bi_add) (And.intro @bi_sub
    @bi_mul))) (And.intro (And.intro (And.intro @bi_eql @bi_neq) (And.intro @bi_lss @bi_leq)) (And.intro (And.intro @bi_gtr @bi_geq) (And.intro
    @uhp @uir)))) (And.intro (And.intro (And.intro @uhr (And.intro @uj4 @un_not)) (And.intro (And.intro @ucg @uhy) (And.intro
    @mx_int @mn_int))) (And.intro (And.intro (And.intro @cv_int @Bool.and_true) (And.intro @Bool.true_and @Bool.and_self)) (And.intro (And.intro
    @Bool.not_true @Bool.not_false) (And.intro @Bool.and_false @Bool.false_and))))) (And.intro (And.intro (And.intro (And.intro @Bool.or_true
    (And.intro @Bool.or_false @Bool.true_or)) (And.intro (And.intro @Bool.false_or @Bool.false_eq_true) (And.intro @decide_eq_true_eq @and_self)))
    (And.intro (And.intro (And.intro @and_true @true_and) (And.intro @not_true_eq_false @not_false_eq_true)) (And.intro (And.intro @Nat.zero_add
    @Nat.add_zero) (And.intro @Nat.le_refl @Nat.lt_add_one)))) (And.intro (And.intro (And.intro (And.intro @Nat.lt_irrefl @and_false) (And.intro
    @false_and @Bool.not_eq_true')) (And.intro (And.intro @Bool.not_eq_eq_eq_not @decide_eq_false_iff_not) (And.intro @Bool.and_eq_true
    @Bool.or_eq_true))) (And.intro (And.intro (And.intro @decide_true @decide_false) (And.intro @u4g @u4e)) (And.intro (And.intro @u61
    @u7d) (And.intro @u5q @u9c))))))))
theorem cr : (∀ {α : Type} {a : α} {l : List α}, (a :: l).length = l.length + 1) ∧ (∀ {α : Type}, ([] : List α).length = 0) ∧ (∀ {α β : Type} {f : α → β} {a : α} {l : List α}, (a :: l).map f = f a :: l.map f) ∧ (∀ {α β : Type} {f : α → β}, [].map f = []) ∧ (∀ {α : Type} {a : α} {l : List α} {i : Nat}, (a :: l).take (i + 1) = a :: l.take i) ∧ (∀ {α : Type} {l : List α}, l.take 0 = []) ∧ (∀ {α : Type} {a : α} {l : List α} {i : Nat}, (a :: l).drop (i + 1) = l.drop i) ∧ (∀ {α : Type} {l : List α}, l.drop 0 = l) ∧ (∀ {α : Type} {i : Nat}, ([] : List α).drop i = []) ∧ (∀ {α : Type} {i : Nat}, ([] : List α).take i = []) ∧ (∀ {α : Type} {a : α} {l k : List α}, a :: l ++ k = a :: (l ++ k)) ∧ (∀ {α : Type} {l : List α}, [] ++ l = l) ∧ (∀ {α : Type} {l : List α}, l ++ [] = l) ∧ (∀ {α : Type} {a b : α} {l : List α}, (a :: l).set 0 b = b :: l) ∧ (∀ {α : Type} {a b : α} {l : List α} {i : Nat}, (a :: l).set (i + 1) b = a :: l.set i b) ∧ (∀ {α : Type} {f : α → Bool} {a : α} {l : List α}, (a :: l).all f = (f a && l.all f)) ∧ (∀ {α : Type} {f : α → Bool}, [].all f = true) ∧ (∀ {a b : Int}, a ≥ b ↔ b ≤ a) ∧ (∀ {a b : Nat}, a ≥ b ↔ b ≤ a) ∧ (∀ {a b : Int}, a > b ↔ b < a) ∧ (∀ {a b : Nat}, a > b ↔ b < a) ∧ (∀ {α : Type} [BEq α] [ReflBEq α] {a : α}, (a == a) = true) ∧ (∀ {α : Type} [BEq α] [LawfulBEq α] {a b : α}, (a == b) = true ↔ a = b) ∧ (∀ {α : Type} [BEq α] [LawfulBEq α] {a b : α}, (a != b) = true ↔ a ≠ b) ∧ (∀ {α : Type} {a b : α}, (a ≠ b) = ¬ a = b) ∧ (∀ {α : Type} {p : Prop} [Decidable p] {x y : α}, (if ¬ p then x else y) = if p then y else x) ∧ (∀ {α : Type} {p : Prop} [Decidable p] {x : α}, (if p then x else x) = x) ∧ (∀ {α : Type} {a b : α}, (some a).getD b = a) ∧ (∀ {α : Type} {b : α}, (none : Option α).getD b = b) :=
  ⟨List.length_cons, List.length_nil, List.map_cons, List.map_nil, List.take_succ_cons, List.take_zero, List.drop_succ_cons, List.drop_zero, List.drop_nil, List.take_nil, List.cons_append, (List.nil_append _), (List.append_nil _), List.set_cons_zero, List.set_cons_succ, List.all_cons, List.all_nil, Iff.rfl, Iff.rfl, Iff.rfl, Iff.rfl, (beq_self_eq_true _), beq_iff_eq, bne_iff_ne, (ne_eq _ _), (ite_not _ _ _), (ite_self _), Option.getD_some, Option.getD_none⟩
end Go.Proofs.Ytjcffopjohkmaaa.Pi
namespace Go.Proofs.Ytjcffopjohkmaaa.Pi
variable {α β σ : Type} {c : Nat} {H : Heap}
def St (H : Heap) (c : Nat) (bx : Box) (L : List Box) : Heap := hadd (hset H c bx) L
def killR (c : Nat) : Option (Out α) → Option (Out α)
  | some (.pan v H) => some (.pan v (hset H c .dead))
  | r => r
def runK (c : Nat) (m : M α) (H : Heap) : Option (Out α) := killR c (run m H)
def bindK (c : Nat) (r : Option (Out α)) (f : α → M β) : Option (Out β) :=
  match r with
  | none => none
  | some (.ok v H) => runK c (f v) H
  | some (.pan v H) => some (.pan v H)
inductive Res (σ α : Type) where
  | ok (v : α) (s : σ)
  | err (t : TypeId) (l : List Int)
  | no
def fltP (t : TypeId) (l : List Int) : PV := .iface t (.agg (l.map (PV.int .i64)))
theorem ui3 {t : TypeId} {l : List Int} : fltP t l = .iface t (.agg (l.map (PV.int .i64))) := nrfl rfl
theorem uae {n : Nat} : ∀ l : List Int, lowL n (l.map (PV.int .i64)) = true
  | [] => u9w
  | a :: r => by rw [List.map_cons, u76, udo, uae r]; rfl
theorem u9b {t : TypeId} {l : List Int} {n : Nat} : (fltP t l).low n = true := by
  unfold fltP
  rw [u75, ucz]
  exact uae l
def Res.bind {σ τ α β : Type} (r : Res σ α) (g : α → σ → Res τ β) : Res τ β :=
  match r with
  | .ok v s => g v s
  | .err t l => .err t l
  | .no => .no
def elimK {σ α γ : Type} (c : Nat) (H : Heap) (L : List Box) (r : Res σ α) (g : α → σ → Option (Out γ)) : Option (Out γ) :=
  match r with
  | .ok v s => g v s
  | .err t l => some (.pan (fltP t l) (St H c .dead L))
  | .no => none
def outK (c : Nat) (H : Heap) (L : List Box) (bx : σ → Box) (enc : α → PV) (r : Res σ α) : Option (Out PV) := elimK c H L r fun v s => some (.ok (enc v) (St H c (bx s) L))
def outS (c : Nat) (H : Heap) (L : List Box) (bx : σ → Box) (enc : α → PV) (r : α × σ) : Option (Out PV) := some (.ok (enc r.1) (St H c (bx r.2) L))
@[congr] theorem ulj {r r' : Option (Out α)} {f : α → M β} (h : r = r') : bindK c r f = bindK c r' f := by rw [h]
@[congr] theorem ulf {σ α γ : Type} {L L' : List Box} {r r' : Res σ α} {g g' : α → σ → Option (Out γ)} (h : r = r') (hL : L = L') (hg : ∀ v s, r' = .ok v s → g v s = g' v s) : elimK c H L r g = elimK c H L' r' g' := by
  subst h hL
  cases r with
  | ok v s => exact hg v s rfl
  | err t l => rfl
  | no => rfl
theorem ugv {L : List Box} {bx : σ → Box} {enc : α → PV} {r : Res σ α} : outK c H L bx enc r = elimK c H L r fun v s => some (.ok (enc v) (St H c (bx s) L)) := nrfl rfl
theorem uh1 {L : List Box} {bx : σ → Box} {enc : α → PV} {v : α} {s : σ} : outK c H L bx enc (.ok v s) = some (.ok (enc v) (St H c (bx s) L)) := nrfl rfl
theorem uel {L : List Box} {bx : σ → Box} {enc : α → PV} {t : TypeId} {l : List Int} : outK c H L bx enc (Res.err t l : Res σ α) = some (.pan (fltP t l) (St H c .dead L)) := nrfl rfl
theorem ugd {L : List Box} {bx : σ → Box} {enc : α → PV} : outK c H L bx enc (Res.no : Res σ α) = none := nrfl rfl
theorem uem {γ : Type} {L : List Box} {g : α → σ → Option (Out γ)} : elimK c H L (Res.no : Res σ α) g = none := nrfl rfl
theorem ub4 {τ : Type} {β : Type} {L : List Box} {bx : σ → Box} {enc : α → PV} {r : Res τ β} {g : β → τ → Res σ α} : outK c H L bx enc (r.bind g) = elimK c H L r fun v s => outK c H L bx enc (g v s) := by cases r <;> rfl
theorem ufd {L : List Box} {bx : σ → Box} {enc : α → PV} {p : Prop} [Decidable p] {r r' : Res σ α} : outK c H L bx enc (if p then r else r') = if p then outK c H L bx enc r else outK c H L bx enc r' := by split <;> rfl
theorem uez {γ : Type} {L : List Box} {v : α} {s : σ} {g : α → σ → Option (Out γ)} : elimK c H L (.ok v s) g = g v s := nrfl rfl
theorem ucn {γ : Type} {L : List Box} {t : TypeId} {l : List Int} {g : α → σ → Option (Out γ)} : elimK c H L (Res.err t l : Res σ α) g = some (.pan (fltP t l) (St H c .dead L)) := nrfl rfl
theorem uc0 {γ : Type} {L : List Box} {p : Prop} [Decidable p] {r r' : Res σ α} {g : α → σ → Option (Out γ)} : elimK c H L (if p then r else r') g = if p then elimK c H L r g else elimK c H L r' g := by split <;> rfl
theorem u7y {γ τ β : Type} {L : List Box} {r : Res τ β} {f : β → τ → Res σ α} {g : α → σ → Option (Out γ)} : elimK c H L (r.bind f) g = elimK c H L r fun v s => elimK c H L (f v s) g := by cases r <;> rfl
theorem ufe {v : α} : killR c (some (.ok v H)) = some (.ok v H) := nrfl rfl
theorem u8r : killR c (none : Option (Out α)) = none := nrfl rfl
theorem u7c {v : PV} : killR c (some (.pan v H) : Option (Out α)) = some (.pan v (hset H c .dead)) := nrfl rfl
theorem uc4 {p : Prop} [Decidable p] {r r' : Option (Out α)} : killR c (if p then r else r') = if p then killR c r else killR c r' := by split <;> rfl
theorem uby {m : M α} {f : α → M β} : runK c (M.bind m f) H = bindK c (runK c m H) f := by
  unfold runK
  rw [run_bind]
  cases run m H with
  | none => rfl
  | some q => cases q <;> rfl
theorem uff {f : α → M β} {v : α} : bindK c (some (.ok v H)) f = runK c (f v) H := nrfl rfl
theorem u97 {f : α → M β} : bindK c none f = none := nrfl rfl
theorem ucf {f : α → M β} {v : PV} : bindK c (some (.pan v H)) f = some (.pan v H) := nrfl rfl
theorem uac {p : Prop} [Decidable p] {r r' : Option (Out α)} {f : α → M β} : bindK c (if p then r else r') f = if p then bindK c r f else bindK c r' f := by split <;> rfl
theorem u8v {L : List Box} {r : Res σ α} {g : α → σ → Option (Out PV)} {f : PV → M β} : bindK c (elimK c H L r g) f = elimK c H L r fun v s => bindK c (g v s) f := by cases r <;> rfl
noncomputable def nbK (c : Nat) (H : Heap) (r : Option (Out α)) (f : α → M β) : Option (Out β) := killR c (nbR H r f)
@[congr] theorem um0 {r r' : Option (Out α)} {f : α → M β} (h : r = r') : nbK c H r f = nbK c H r' f := by rw [h]
theorem uj1 {m : M α} {f : α → M β} : runK c (nb m f) H = nbK c H (runK c m H) f := by
  unfold nbK runK nbR run nb killR
  dsimp only
  cases m H with
  | none => rfl
  | some q => cases q <;> rfl
theorem nbK_ok {f : α → M β} {v : α} : nbK c H (some (.ok v H)) f = runK c (f v) H := by
  unfold nbK
  rw [nbR_ok]
  rfl
theorem uea {f : α → M β} : nbK c H none f = none := by
  unfold nbK nbR nb
  rfl
theorem uin {p : Prop} [Decidable p] {r r' : Option (Out α)} {f : α → M β} : nbK c H (if p then r else r') f = if p then nbK c H r f else nbK c H r' f := by split <;> rfl
theorem ufy {m : M PV} (hc : c < List.length H) : runK c (trunc m) H = truncR H (runK c m H) := by
  unfold runK
  rw [u6n]
  cases run m H with
  | none => rfl
  | some q => cases q with
    | ok v K => rfl
    | pan v K =>
      show killR c (bif v.low H.length then some (Out.pan v (hcut K H.length)) else none) = (bif v.low H.length then some (Out.pan v (hcut (hset K c .dead) H.length)) else none)
      cases v.low H.length with
      | false => rfl
      | true =>
        simp only [cond_true, u7c, Option.some.injEq, Out.pan.injEq, true_and]
        unfold hset hcut
        rw [List.take_set]
theorem u86 {p : Bool} {m : M α} : runK c (guardM p m) H = if p = true then runK c m H else none := by cases p <;> rfl
theorem uc5 {v : PV} {m : M PV} : runK c (resT v m) H = if isTup v = true then none else runK c m H := by unfold resT; cases isTup v <;> rfl
theorem ub8 {p : Bool} {x y : M α} : runK c (condM (.bool p) x y) H = if p = true then runK c x H else runK c y H := by cases p <;> rfl
theorem ueu {p : Bool} {m : M PV} : runK c (gd (.bool p) true m) H = if p = true then runK c m H else some (.ok (.tup []) H) := by cases p <;> rfl
theorem ue8 {p : Bool} {m : M PV} : runK c (gd (.bool p) false m) H = if p = true then some (.ok (.tup []) H) else runK c m H := by cases p <;> rfl
theorem ueo {b : Bool} {m : M PV} : runK c (gd (.tup []) b m) H = some (.ok (.tup []) H) := nrfl rfl
theorem ub0 {v : α} : runK c (M.pure v) H = some (.ok v H) := nrfl rfl
theorem ue6 {v : PV} : runK c (M.pan v : M α) H = some (.pan v (hset H c .dead)) := nrfl rfl
theorem ubs : runK c (M.fail : M α) H = none := nrfl rfl
theorem u8m {m : M PV} : runK c (noPan m) H = noPanR (run m H) := by
  unfold runK
  rw [u6t]
  cases run m H with
  | none => rfl
  | some q => cases q <;> rfl
noncomputable def chkK (c : Nat) (r r' : Option (Out α)) (x : M β) (H : Heap) : Option (Out β) := killR c (chkR r r' x H)
@[congr] theorem uly {r r' s s' : Option (Out α)} {x : M β} (h : r = s) (h' : r' = s') : chkK c r r' x H = chkK c s s' x H := by rw [h, h']
theorem uf4 {m m' : M α} {x : M β} : runK c (chk m m' x) H = chkK c (run m H) (run m' H) x H := nrfl rfl
theorem ugl {a : α} {K : Heap} {x : M β} : chkK c (some (.ok a K)) (some (.ok a K)) x H = runK c x H := by
  unfold chkK
  rw [udg]
  rfl
theorem uc7 {r : Option (Out α)} {x : M β} : chkK c none r x H = none := by
  unfold chkK chkR run chk
  rfl
theorem udt {p : Prop} [Decidable p] {r r' s : Option (Out α)} {x : M β} : chkK c (if p then r else r') s x H = if p then chkK c r s x H else chkK c r' s x H := by split <;> rfl
theorem ucd {r : Option (Out α)} {x : M β} : chkR none r x H = none := by
  unfold chkR run chk
  rfl
theorem uf9 {p : Prop} [Decidable p] {r r' s : Option (Out α)} {x : M β} : chkR (if p then r else r') s x H = if p then chkR r s x H else chkR r' s x H := by split <;> rfl
section
variable {n : Nat} {id o : Nat} {x y v i : PV} {cs : List PV} {m : Option Nat} {mv b : Bool} {L : List Box}
theorem uj2 : runK c (al cs) H = killR c (run (al cs) H) := nrfl rfl
theorem ugy : runK c (bx n v) H = killR c (run (bx n v) H) := nrfl rfl
theorem ugb : runK c (ld m mv v) H = killR c (run (ld m mv v) H) := nrfl rfl
theorem uih : runK c (st n mv x v) H = killR c (run (st n mv x v) H) := nrfl rfl
theorem uej : runK c (iaS n x i) H = killR c (run (iaS n x i) H) := nrfl rfl
theorem uen {len : Nat} : runK c (ixA len n m x i) H = killR c (run (ixA len n m x i) H) := nrfl rfl
theorem ubg : runK c (pick v x y) H = killR c (run (pick v x y) H) := nrfl rfl
theorem uhj {t : TypeId} : runK c (mi t v) H = killR c (run (mi t v) H) := nrfl rfl
theorem uhb {t : FuncId} {l l' : List PV} : runK c (mf t l l') H = killR c (run (mf t l l') H) := nrfl rfl
theorem ui7 {z : List PV} {ps : List (Nat × Nat × PV)} : runK c (bd z ps) H = killR c (run (bd z ps) H) := nrfl rfl
theorem uis {l : List PV} : runK c (bs b m l) H = killR c (run (bs b m l) H) := nrfl rfl
theorem uhw {k : Nat} : runK c (ap b n k x y) H = killR c (run (ap b n k x y) H) := nrfl rfl
theorem uh0 {k : Nat} : runK c (mk b n k x y) H = killR c (run (mk b n k x y) H) := nrfl rfl
theorem uei : runK c (lnS x) H = killR c (run (lnS x) H) := nrfl rfl
theorem ufb : runK c (lnL x) H = killR c (run (lnL x) H) := nrfl rfl
theorem udv : runK c (ixS x i) H = killR c (run (ixS x i) H) := nrfl rfl
theorem udu {lo hi : Option PV} : runK c (slS x lo hi) H = killR c (run (slS x lo hi) H) := nrfl rfl
theorem ufh {lo hi : Option PV} : runK c (slL n x lo hi) H = killR c (run (slL n x lo hi) H) := nrfl rfl
theorem ui4 {k : Cv} : runK c (cv k b x) H = killR c (run (cv k b x) H) := nrfl rfl
theorem uia : runK c (ex n x) H = killR c (run (ex n x) H) := nrfl rfl
theorem uhh {op : BinOp} {ek : EqK} : runK c (bi op ek x y) H = killR c (run (bi op ek x y) H) := nrfl rfl
theorem len_St {x : Box} : List.length (St H c x L) = List.length H + List.length L := by unfold St; rw [u48, u2i]
theorem get_St {x : Box} (hc : c < List.length H) : hget (St H c x L) c = some x := by unfold St; rw [u5q hc, u6a hc]
theorem uj6 {x : Box} (k : Nat) : hget (St H c x L) (List.length H + k) = nth L k := u4g k
theorem uf0 {x : Box} : hget (St H c x L) (List.length H) = nth L 0 := u4e
theorem set_St {x y : Box} (hc : c < List.length H) : hset (St H c x L) c y = St H c y L := by unfold St; rw [u9c hc, set_set]
theorem ugn {x y : Box} (k : Nat) : hset (St H c x L) (List.length H + k) y = St H c x (L.set k y) := u61 k
theorem ufa {x y : Box} : hset (St H c x L) (List.length H) y = St H c x (L.set 0 y) := u7d
theorem add_St {x : Box} {K : List Box} : hadd (St H c x L) K = St H c x (L ++ K) := u7b
theorem cut_St {x : Box} : hcut (St H c x L) (List.length H) = St H c x [] := by
  unfold St
  rw [cutA1]
  exact (List.append_nil _).symm
theorem u6g {r : Res σ α} {bx : Box} {g : α → σ → Option (Out PV)} : truncR (St H c bx []) (elimK c H L r g) = elimK c H [] r fun v s => truncR (St H c bx []) (g v s) := by
  cases r with
  | ok v s => rfl
  | err t l =>
    show truncR (St H c bx []) (some (Out.pan (fltP t l) (St H c .dead L))) = some (Out.pan (fltP t l) (St H c .dead []))
    rw [u4z, if_pos u9b, len_St, List.length_nil, Nat.add_zero, cut_St]
  | no => rfl
theorem u6q {m : M PV} {x : Box} (hc : c < List.length H) : runK c (trunc m) (St H c x L) = truncR (St H c x L) (runK c m (St H c x L)) := ufy (by rw [len_St]; omega)
theorem uh7 {bx : σ → Box} {enc : α → PV} {v : α} {s : σ} : outS c H L bx enc (v, s) = some (.ok (enc v) (St H c (bx s) L)) := nrfl rfl
theorem uhf {bx : σ → Box} {enc : α → PV} {r : α × σ} {f : PV → M β} : bindR (outS c H L bx enc r) f = run (f (enc r.1)) (St H c (bx r.2) L) := nrfl rfl
end
end Go.Proofs.Ytjcffopjohkmaaa.Pi
namespace Go.Proofs.Ytjcffopjohkmaaa.Pi
theorem kDown : type_of% (And.intro (And.intro (And.intro (And.intro (And.intro @uh1 @uel) (And.intro @ugd (And.intro @uem @ub4))) (And.intro
    (And.intro @ufd @uez) (And.intro @ucn (And.intro @uc0 @u7y)))) (And.intro (And.intro (And.intro @ufe @u8r)
    (And.intro @u7c (And.intro @uc4 @uby))) (And.intro (And.intro @uff (And.intro @u97 @ucf)) (And.intro @uac
    (And.intro @u8v @u6g))))) (And.intro (And.intro (And.intro (And.intro @uj1 @nbK_ok) (And.intro @uea (And.intro @uin
    @u6q))) (And.intro (And.intro @u86 (And.intro @uc5 @ub8)) (And.intro @ueu (And.intro @ue8 @ueo))))
    (And.intro (And.intro (And.intro @ub0 @ue6) (And.intro @ubs (And.intro @u8m @uf4))) (And.intro (And.intro @ugl
    (And.intro @uc7 @udt)) (And.intro @ucd (And.intro @uf9 @uhf)))))) := (And.intro (And.intro (And.intro (And.intro (And.intro @uh1 @uel) (And.intro @ugd (And.intro @uem @ub4))) (And.intro
    (And.intro @ufd @uez) (And.intro @ucn (And.intro @uc0 @u7y)))) (And.intro (And.intro (And.intro @ufe @u8r)
    (And.intro @u7c (And.intro @uc4 @uby))) (And.intro (And.intro @uff (And.intro @u97 @ucf)) (And.intro @uac
    (And.intro @u8v @u6g))))) (And.intro (And.intro (And.intro (And.intro @uj1 @nbK_ok) (And.intro @uea (And.intro @uin
    @u6q))) (And.intro (And.intro @u86 (And.intro @uc5 @ub8)) (And.intro @ueu (And.intro @ue8 @ueo))))
    (And.intro (And.intro (And.intro @ub0 @ue6) (And.intro @ubs (And.intro @u8m @uf4))) (And.intro (And.intro @ugl
    (And.intro @uc7 @udt)) (And.intro @ucd (And.intro @uf9 @uhf))))))
theorem kUp : type_of% (And.intro (And.intro (And.intro (And.intro (And.intro @ugv @uh7) (And.intro @ui3 @u9b)) (And.intro (And.intro @uj2 @ugy)
    (And.intro @ugb @uih))) (And.intro (And.intro (And.intro @uej @uen) (And.intro @ubg @uhj)) (And.intro (And.intro
    @uhb @ui7) (And.intro @uis (And.intro @uhw @uh0))))) (And.intro (And.intro (And.intro (And.intro @uei @ufb)
    (And.intro @udv @udu)) (And.intro (And.intro @ufh @ui4) (And.intro @uia @uhh))) (And.intro (And.intro (And.intro @len_St
    @get_St) (And.intro @uj6 @uf0)) (And.intro (And.intro @set_St @ugn) (And.intro @ufa (And.intro @add_St @cut_St)))))) := (And.intro (And.intro (And.intro (And.intro (And.intro @ugv @uh7) (And.intro @ui3 @u9b)) (And.intro (And.intro @uj2 @ugy)
    (And.intro @ugb @uih))) (And.intro (And.intro (And.intro @uej @uen) (And.intro @ubg @uhj)) (And.intro (And.intro
    @uhb @ui7) (And.intro @uis (And.intro @uhw @uh0))))) (And.intro (And.intro (And.intro (And.intro @uei @ufb)
    (And.intro @udv @udu)) (And.intro (And.intro @ufh @ui4) (And.intro @uia @uhh))) (And.intro (And.intro (And.intro @len_St
    @get_St) (And.intro @uj6 @uf0)) (And.intro (And.intro @set_St @ugn) (And.intro @ufa (And.intro @add_St @cut_St))))))
end Go.Proofs.Ytjcffopjohkmaaa.Pi
namespace Go.Proofs.Ytjcffopjohkmaaa.Pi
variable {α β : Type} {H : Heap}
noncomputable def chkAR (r2 r1 : Option (Out Env)) (x : M β) (H : Heap) : Option (Out β) := run (chkA (fun _ => r2) (fun _ => r1) x) H
@[congr] theorem ukz {r r' s s' : Option (Out Env)} {x : M β} (h : r = s) (h' : r' = s') : chkAR r r' x H = chkAR s s' x H := by rw [h, h']
end Go.Proofs.Ytjcffopjohkmaaa.Pi
namespace Go.Proofs.Ytjcffopjohkmaaa.Pi
variable {H K : Heap} {k : IntKind} {n : Int} {v : PV}
noncomputable def u1s (H : Heap) (r : Option (Out PV)) : Option (Out PV) := truncE (fun _ => r) H
theorem u0r {m : M PV} : run (truncE m) H = u1s H (run m H) := nrfl rfl
@[congr] theorem uko {r r' : Option (Out PV)} (h : r = r') : u1s H r = u1s H r' := by rw [h]
open Classical in
theorem u2n : u1s H (some (.ok v K)) = some (.ok v (if v.low H.length = true ∧ hcut K H.length = H then H else K)) := by
  unfold u1s truncE hcut
  rfl
theorem u2z (h : hcut K H.length = H) (hv : v.low H.length = true) : u1s H (some (.ok v K)) = some (.ok v H) := by
  rw [u2n, if_pos ⟨hv, h⟩]
theorem udf (hv : v.low H.length = false) : u1s H (some (.ok v K)) = some (.ok v K) := by
  rw [u2n, if_neg (fun h => by rw [hv] at h; cases h.1)]
theorem ud1 (h : hcut K H.length ≠ H) : u1s H (some (.ok v K)) = some (.ok v K) := by
  rw [u2n, if_neg (fun h' => h h'.2)]
theorem u2t : ∃ K', u1s H (some (.ok v K)) = some (.ok v K') := by
  rw [u2n]
  exact ⟨_, rfl⟩
theorem ul7 {m : Nat} {mv : Bool} {id o : Nat} {cs : List PV} (h : hget H id = some (.cells cs)) (h1 : v.cells.length = m) (h2 : o + m ≤ cs.length) (h3 : v.cells.all isCell = true) :
    run (stG true m mv (.ptr id o) v) H = some (.ok .undef (hset H id (.cells (fillAt o (if mv = true then v.cells else v.cells.map stripC) cs)))) := by
  unfold run stG
  have h : H[id]? = some (.cells cs) := h
  dsimp only
  rw [h]
  dsimp only
  rw [h1, beq_self_eq_true, decide_eq_true h2, h3]
  cases mv <;> rfl
theorem ult {P : Program} {t : TypeId} {i : TypeInfo} {z : Value} (h : P.info? t = some i) (hz : i.zero = some z) : run (alZ P t) H = some (.ok (.ptr H.length 0) (hadd H [.cells (okC (ofV z).cells)])) := by
  unfold run alZ
  rw [h]
  simp only [Option.bind_some, hz]
  rfl
theorem ul4 {id off sz m : Nat} (h0 : 0 ≤ n) (h1 : n < m) : run (iaS sz (.win id off sz m) (.int k n)) H = some (.ok (.ptr id (off + n.toNat * sz)) H) := by
  unfold run iaS
  simp only [decide_eq_true h0, decide_eq_true h1, beq_self_eq_true, Bool.and_self, cond_true]
  rfl
theorem uj9 {id off sz m : Nat} : lnL (.win id off sz m) = M.pure (.int .i64 m) := nrfl rfl
theorem uka {p : PV} (h : isCell p = true) : run (bsL 1 [p]) H = some (.ok (.lit 1 1 [stripC p]) H) := by
  have e : p.cells = [p] := by cases p <;> first | rfl | simp [isCell] at h
  unfold run bsL
  simp only [List.all_cons, List.all_nil, e, h, List.length_cons, List.length_nil, Bool.and_true, List.flatMap_cons, List.flatMap_nil, List.append_nil, List.map_cons, List.map_nil]
  rfl
theorem ukw {own : Bool} {a : Option Nat} {sz b sx m : Nat} {cs : List PV} (h0 : m ≠ 0) (hg : growB b m = true) : run (apL own a sz b true (.slice false true sx []) (.lit sz m cs)) H = some (.ok (.win H.length 0 sz m) (hadd H [.cells cs])) := by
  unfold run
  show pushW sz b (.slice false true sx []) (.lit sz m cs) H = _
  unfold pushW u3s
  have : (m == 0) = false := by simpa using h0
  simp only [beq_self_eq_true, cond_true, this, cond_false, hg]
  rfl
theorem uls {own nw : Bool} {a : Option Nat} {id sz b n0 m : Nat} {cs ds : List PV} (h : hget H id = some (.cells ds)) (hl : n0 * sz ≤ ds.length) (hg : growB b (n0 + m) = true) :
    run (apL own a sz b nw (.win id 0 sz n0) (.lit sz m cs)) H = some (.ok (.win H.length 0 sz (n0 + m)) (hadd (hset H id .dead) [.cells (ds.take (n0 * sz) ++ cs)])) := by
  unfold run
  show pushW sz b (.win id 0 sz n0) (.lit sz m cs) H = _
  unfold pushW u3s
  have h : H[id]? = some (.cells ds) := h
  simp only [beq_self_eq_true, cond_true, h, decide_eq_true hl, hg, Bool.and_self]
  rfl
theorem ua7 {a b c d : Nat} : isTup (.win a b c d) = false := nrfl rfl
theorem ubk {a b c d : Nat} : strip (.win a b c d) = .win a b c d := nrfl rfl
theorem u96 {a b c d : Nat} : stripC (.win a b c d) = .win a b c d := nrfl rfl
theorem udj {i o : Nat} : run (bi .eql .ptr (.ptr i o) .nil) H = some (.ok (.bool false) H) := nrfl rfl
theorem ui5 : run (bi .eql .ptr .nil .nil) H = some (.ok (.bool true) H) := nrfl rfl
theorem uli {i o : Nat} : run (bi .neq .ptr (.ptr i o) .nil) H = some (.ok (.bool true) H) := nrfl rfl
theorem u3a {b : Bool} : run (un .not (.bool b)) H = some (.ok (.bool (!b)) H) := nrfl rfl
theorem ul0 {len sz id o : Nat} (h0 : 0 ≤ n) (h1 : n < len) : run (iaA len sz (.ptr id o) (.int k n)) H = some (.ok (.ptr id (o + n.toNat * sz)) H) := by
  unfold run iaA
  simp only [decide_eq_true h0, decide_eq_true h1, Bool.and_self, cond_true]
  rfl
end Go.Proofs.Ytjcffopjohkmaaa.Pi
namespace Go.Proofs.Ytjcffopjohkmaaa.Pi.Q
open Go Go.Proofs.Ytjcffopjohkmaaa.Pi
noncomputable abbrev P : Program := Try.prog
noncomputable abbrev X : ExtT := fun _ => none
noncomputable abbrev C := callW P X
noncomputable abbrev CD := callDW P X
abbrev u0i : FuncId := 3
abbrev u0u : FuncId := 5
abbrev u0c : FuncId := 6
abbrev u09 : FuncId := 7
abbrev u0k : FuncId := 8
abbrev u0q : FuncId := 9
abbrev u0w : FuncId := 10
abbrev u0z : FuncId := 13
abbrev u0p : FuncId := 14
abbrev u17 : FuncId := 15
abbrev u19 : FuncId := 16
abbrev u4c : FuncId := 17
end Go.Proofs.Ytjcffopjohkmaaa.Pi.Q
namespace Go.Proofs.Ytjcffopjohkmaaa.Pi.Q
open Go Go.Proofs.Ytjcffopjohkmaaa.Pi
noncomputable def u08 (v1 v2 v6 v7 v9 v10 : PV) : M PV := atP P X u0i [1, 1, 1, 1, 1, 1, 1] (mkEnv 142 0 [(1, v1), (2, v2), (6, v6), (7, v7), (9, v9), (10, v10)])
noncomputable def u05 (v6 v9 v14 v17 v18 v19 : PV) : M PV := atP P X u0i [1, 1, 1, 1, 1, 1, 1, 1, 1, 1, 1, 1, 1, 1, 1, 0, 1, 0] (mkEnv 142 0 [(6, v6), (9, v9), (14, v14), (17, v17), (18, v18), (19, v19)])
theorem u0x (v1 v2 v6 v7 v9 v10 : PV) : u08 v1 v2 v6 v7 v9 v10 =
 M.bind (C u0k [(strip (strip v7)), (strip (strip v10)), (strip (strip v2))]) fun t50_0 =>
 M.bind (bi .eql .none t50_0 (.int .i64 0)) fun t51_1 =>
 M.bind (C u0q [(strip (strip v7)), (strip (strip v1)), (.int .u64 4)]) fun t55_2 =>
 M.bind (ex 0 t55_2) fun t56_3 =>
 M.bind (ex 1 (tupDrop 0 t55_2)) fun t57_4 =>
 M.bind (un .not (strip t57_4)) fun t59_5 =>
 condM t59_5
 (M.bind (bi .eql .none (strip t56_3) (.int .u64 0)) fun t61_6 =>
 M.bind (gd (strip t61_6) true (M.pure (strip v7))) fun t63_7 =>
 M.bind (gd (strip t61_6) true (C u09 [(strip t63_7)])) fun t64_8 =>
 M.bind (gd (strip t61_6) true (bi .mul .none t64_8 (.int .u64 65536))) fun t65_9 =>
 M.bind (gd (strip t61_6) true (M.pure (strip v9))) fun t66_10 =>
 M.bind (gd (strip t61_6) true (bi .eql .none t65_9 t66_10)) fun t67_11 =>
 M.bind (pick (strip t61_6) t67_11 (.bool false)) fun t68_12 =>
 M.bind (gd (strip t68_12) true (C u0c [])) fun t70_13 =>
 M.bind (pick (strip t68_12) t70_13 (.bool false)) fun t71_14 =>
 resT t71_14 (M.pure t71_14))
 (M.bind (C u09 [(strip (strip v7))]) fun t73_15 =>
 M.bind (bi .mul .none t73_15 (.int .u64 65536)) fun t74_16 =>
 M.bind (bi .mul .none (strip v1) (.int .u64 65536)) fun t78_17 =>
 M.bind (bi .add .none (strip v9) t78_17) fun t79_18 =>
 M.bind (bi .neq .none (strip t74_16) t79_18) fun t80_19 =>
 M.bind (gd (strip t80_19) false (M.pure (strip t56_3))) fun t82_20 =>
 M.bind (gd (strip t80_19) false (bi .mul .none t82_20 (.int .u64 65536))) fun t83_21 =>
 M.bind (gd (strip t80_19) false (M.pure (strip v9))) fun t84_22 =>
 M.bind (gd (strip t80_19) false (bi .neq .none t83_21 t84_22)) fun t85_23 =>
 M.bind (pick (strip t80_19) (.bool true) t85_23) fun t86_24 =>
 condM t86_24
 (M.pure (.bool false))
 (M.bind (lnL (strip v2)) fun t91_25 =>
 M.bind (cv (.int .u64) true t91_25) fun t92_26 =>
 M.bind (C u0w [(strip (strip v7)), (strip (strip v10)), (strip t92_26)]) fun t93_27 =>
 M.bind (ex 0 t93_27) fun t94_28 =>
 M.bind (ex 1 (tupDrop 0 t93_27)) fun t95_29 =>
 M.bind (gd (strip (strip t51_1)) true (M.pure (strip t95_29))) fun t98_30 =>
 M.bind (gd (strip (strip t51_1)) true (bi .neq .none t98_30 (.int .i64 0))) fun t99_31 =>
 M.bind (gd (strip (strip t51_1)) true (M.pure (strip t99_31))) fun t100_32 =>
 M.bind (gd t100_32 false (M.pure (strip t94_28))) fun t101_33 =>
 M.bind (gd t100_32 false (cv .bytesToStr true t101_33)) fun t102_34 =>
 M.bind (gd t100_32 false (M.pure (strip v2))) fun t103_35 =>
 M.bind (gd t100_32 false (cv .bytesToStr true t103_35)) fun t104_36 =>
 M.bind (gd t100_32 false (bi .neq .none t102_34 t104_36)) fun t105_37 =>
 M.bind (gd (strip (strip t51_1)) true (pick t100_32 (.bool true) t105_37)) fun t106_38 =>
 M.bind (pick (strip (strip t51_1)) t106_38 (.bool false)) fun t107_39 =>
 condM t107_39
 (M.pure (.bool false))
 (M.bind (bi .sub .none (strip t74_16) (strip v9)) fun t113_40 =>
 M.bind (C u0w [(strip (strip v7)), (strip (strip v9)), (strip t113_40)]) fun t114_41 =>
 M.bind (ex 0 t114_41) fun t115_42 =>
 M.bind (ex 1 (tupDrop 0 t114_41)) fun t116_43 =>
 u05 v6 v9 t74_16 t115_42 t116_43 (.int .i64 0)))) :=
 (u4l P X _ _ _).trans (by kernel_rfl)
theorem u0j (v6 v9 v14 v17 v18 v19 : PV) : u05 v6 v9 v14 v17 v18 v19 =
 M.bind (lnL (strip v17)) fun t119_0 =>
 M.bind (bi .lss .none (strip v19) t119_0) fun t120_1 =>
 condM t120_1
 (M.bind (iaS 1 (strip v17) (strip v19)) fun t125_2 =>
 M.bind (ld none false t125_2) fun t126_3 =>
 M.bind (bi .neq .none t126_3 (.int .u8 0)) fun t127_4 =>
 condM t127_4
 (M.pure (.bool false))
 (M.bind (bi .add .none (strip v19) (.int .i64 1)) fun t122_5 =>
 u05 v6 v9 v14 v17 v18 t122_5))
 (M.bind (bi .eql .none (strip v18) (.int .i64 0)) fun t129_6 =>
 M.bind (gd (strip t129_6) true (M.pure (strip v17))) fun t131_7 =>
 M.bind (gd (strip t129_6) true (lnL t131_7)) fun t132_8 =>
 M.bind (gd (strip t129_6) true (cv (.int .u64) true t132_8)) fun t133_9 =>
 M.bind (gd (strip t129_6) true (M.pure (strip v14))) fun t134_10 =>
 M.bind (gd (strip t129_6) true (M.pure (strip v9))) fun t135_11 =>
 M.bind (gd (strip t129_6) true (bi .sub .none t134_10 t135_11)) fun t136_12 =>
 M.bind (gd (strip t129_6) true (bi .eql .none t133_9 t136_12)) fun t137_13 =>
 M.bind (pick (strip t129_6) t137_13 (.bool false)) fun t138_14 =>
 M.bind (gd (strip t138_14) true (C u0c [])) fun t140_15 =>
 M.bind (pick (strip t138_14) t140_15 (.bool false)) fun t141_16 =>
 resT t141_16 (M.pure t141_16)) :=
 (u4l P X _ _ _).trans (by kernel_rfl)
theorem u0m (a0 a1 a2 : PV) : C u0i [a0, a1, a2] =
 truncE (M.bind (bx 4 a0) fun t3_0 =>
 M.bind (ld (some 4) false t3_0) fun t21_1 =>
 M.bind (C u0u [(strip t21_1), (.int .u64 4)]) fun t22_2 =>
 M.bind (ex 0 t22_2) fun t23_3 =>
 M.bind (ex 1 (tupDrop 0 t22_2)) fun t24_4 =>
 M.bind (bi .neq .none (strip t24_4) (.int .i64 0)) fun t26_5 =>
 condM t26_5
 (M.bind (bi .eql .ptr (strip t23_3) .nil) fun t28_6 =>
 M.bind (gd (strip t28_6) true (C u0c [])) fun t30_7 =>
 M.bind (pick (strip t28_6) t30_7 (.bool false)) fun t31_8 =>
 resT t31_8 (M.pure t31_8))
 (M.bind (bi .eql .ptr (strip t23_3) .nil) fun t33_9 =>
 condM t33_9
 (M.pure (.bool false))
 (M.bind (C u09 [(strip (strip t23_3))]) fun t35_10 =>
 M.bind (bi .mul .none t35_10 (.int .u64 65536)) fun t36_11 =>
 M.bind (lnL (strip a2)) fun t39_12 =>
 M.bind (cv (.int .u64) true t39_12) fun t40_13 =>
 M.bind (bi .gtr .none (strip t36_11) t40_13) fun t41_14 =>
 condM t41_14
 (M.bind (lnL (strip a2)) fun t44_15 =>
 M.bind (cv (.int .u64) true t44_15) fun t45_16 =>
 M.bind (bi .sub .none (strip t36_11) t45_16) fun t46_17 =>
 u08 a1 a2 (.bool false) t23_3 t36_11 t46_17)
 (u08 a1 a2 (.bool false) t23_3 t36_11 (.int .u64 0))))) := by
 rw [C, u1f _ _ rfl]; kernel_rfl
theorem u2u (a0 a1 : PV) : C u0u [a0, a1] =
 truncE (M.bind (bx 4 a0) fun t2_0 =>
 M.bind (fa 1 t2_0) fun t7_1 =>
 M.bind (ld none false t7_1) fun t8_2 =>
 M.bind (bi .gtr .none t8_2 (strip a1)) fun t10_3 =>
 M.bind (gd (strip t10_3) false (fa 1 t2_0)) fun t12_4 =>
 M.bind (gd (strip t10_3) false (ld none false t12_4)) fun t13_5 =>
 M.bind (gd (strip t10_3) false (bi .gtr .none t13_5 (.int .u64 64))) fun t14_6 =>
 M.bind (pick (strip t10_3) (.bool true) t14_6) fun t15_7 =>
 condM t15_7
 (M.pure (.tup [.nil, (.int .i64 211)]))
 (M.bind (fa 3 t2_0) fun t16_8 =>
 M.bind (ld none false t16_8) fun t17_9 =>
 M.bind (gd (strip t17_9) true (fa 2 t2_0)) fun t19_10 =>
 M.bind (gd (strip t17_9) true (ld none false t19_10)) fun t20_11 =>
 M.bind (gd (strip t17_9) true (fa 1 t2_0)) fun t21_12 =>
 M.bind (gd (strip t17_9) true (ld none false t21_12)) fun t22_13 =>
 M.bind (gd (strip t17_9) true (bi .lss .none t20_11 t22_13)) fun t23_14 =>
 M.bind (pick (strip t17_9) t23_14 (.bool false)) fun t24_15 =>
 condM t24_15
 (M.pure (.tup [.nil, (.int .i64 1)]))
 (M.bind (ld (some 4) false t2_0) fun t25_16 =>
 M.bind (bd [(.bool false), (.bool false), (.int .u64 0), (.int .u64 0), (.bool false), (.slice false true 0 [])] [(0, 1, (.bool true)), (1, 4, t25_16)]) fun t26_17 =>
 M.bind (bx 6 t26_17) fun t27_18 =>
 M.bind (fa 1 t2_0) fun t29_19 =>
 M.bind (ld none false t29_19) fun t30_20 =>
 M.bind (C u0z [(strip (strip t27_18)), (strip t30_20)]) fun t31_21 =>
 resT t27_18 (M.pure (.tup [t27_18, (.int .i64 0)]))))) := by
 rw [C, u1f _ _ rfl]; kernel_rfl
theorem u39 : C u0c [] =
 truncE (M.bind (bd [(.bool false), (.int .u64 0), (.int .u64 0), (.bool false)] [(1, 1, (.int .u64 1))]) fun t4_0 =>
 M.bind (C u0u [(strip t4_0), (.int .u64 1)]) fun t5_1 =>
 M.bind (ex 0 t5_1) fun t6_2 =>
 M.bind (ex 1 (tupDrop 0 t5_1)) fun t7_3 =>
 M.bind (bi .neq .ptr (strip t6_2) .nil) fun t9_4 =>
 M.bind (gd (strip t9_4) true (M.pure (strip t7_3))) fun t11_5 =>
 M.bind (gd (strip t9_4) true (bi .eql .none t11_5 (.int .i64 0))) fun t12_6 =>
 M.bind (pick (strip t9_4) t12_6 (.bool false)) fun t13_7 =>
 M.bind (gd (strip t13_7) true (M.pure (strip t6_2))) fun t15_8 =>
 M.bind (gd (strip t13_7) true (C u09 [(strip t15_8)])) fun t16_9 =>
 M.bind (gd (strip t13_7) true (bi .eql .none t16_9 (.int .u64 1))) fun t17_10 =>
 M.bind (pick (strip t13_7) t17_10 (.bool false)) fun t18_11 =>
 resT t18_11 (M.pure t18_11)) := by
 rw [C, u1f _ _ rfl]; kernel_rfl
theorem u3d (a0 : PV) : C u09 [a0] =
 trunc (M.bind (C u0p [(strip (strip a0))]) fun t4_0 =>
 condM t4_0
 (M.pure (.int .u64 0))
 (M.bind (nc P (strip a0)) fun t6_1 =>
 M.bind (fa 5 t6_1) fun t7_2 =>
 M.bind (ld none false t7_2) fun t8_3 =>
 M.bind (lnL t8_3) fun t9_4 =>
 M.bind (cv (.int .u64) true t9_4) fun t10_5 =>
 resT t10_5 (M.pure t10_5))) := by
 rw [C, u1f _ _ rfl]; kernel_rfl
noncomputable def u0e (v0 v1 v6 v20 v21 v22 : PV) : M PV := atP P X u0k [1, 1, 0, 1, 0] (mkEnv 36 0 [(0, v0), (1, v1), (6, v6), (20, v20), (21, v21), (22, v22)])
theorem u14 (v0 v1 v6 v20 v21 v22 : PV) : u0e v0 v1 v6 v20 v21 v22 =
 M.bind (bi .lss .none v22 v21) fun t23_0 =>
 condM t23_0
 (M.bind (iaS 1 v20 (strip v22)) fun t25_1 =>
 M.bind (ld none true t25_1) fun t26_2 =>
 M.bind (cv (.int .u64) true (strip v22)) fun t30_3 =>
 M.bind (bi .add .none (strip v1) t30_3) fun t31_4 =>
 M.bind (C u19 [(strip (strip v0)), (strip t31_4)]) fun t32_5 =>
 M.bind (nc P t32_5) fun t34_6 =>
 M.bind (st 1 true t34_6 t26_2) fun _ =>
 M.bind (bi .add .none (strip v22) (.int .i64 1)) fun t35_8 =>
 u0e v0 v1 v6 v20 v21 (strip t35_8))
 (M.pure (.int .i64 0)) :=
 (u4l P X _ _ _).trans (by kernel_rfl)
theorem u1r (a0 a1 a2 : PV) : C u0k [a0, a1, a2] =
 trunc (M.bind (C u0p [(strip (strip a0))]) fun t11_0 =>
 condM t11_0
 (M.pure (.int .i64 7))
 (M.bind (lnL (strip a2)) fun t16_1 =>
 M.bind (cv (.int .u64) true t16_1) fun t17_2 =>
 M.bind (C u17 [(strip (strip a0)), (strip (strip a1)), (strip t17_2)]) fun t18_3 =>
 M.bind (un .not t18_3) fun t19_4 =>
 condM t19_4
 (M.pure (.int .i64 210))
 (M.bind (lnL (strip a2)) fun t21_5 =>
 u0e a0 a1 (.int .i64 0) (strip a2) t21_5 (.int .i64 0)))) := by
 rw [C, u1f _ _ rfl]; kernel_rfl
theorem u23 (a0 a1 a2 : PV) : C u0q [a0, a1, a2] =
 truncE (M.bind (C u09 [(strip (strip a0))]) fun t10_0 =>
 M.bind (C u0p [(strip (strip a0))]) fun t12_1 =>
 M.bind (gd (strip t12_1) false (M.pure (strip a1))) fun t14_2 =>
 M.bind (gd (strip t12_1) false (M.pure (strip a2))) fun t15_3 =>
 M.bind (gd (strip t12_1) false (bi .gtr .none t14_2 t15_3)) fun t16_4 =>
 M.bind (pick (strip t12_1) (.bool true) t16_4) fun t17_5 =>
 M.bind (gd (strip t17_5) false (M.pure (strip a1))) fun t19_6 =>
 M.bind (gd (strip t17_5) false (M.pure (strip t10_0))) fun t20_7 =>
 M.bind (gd (strip t17_5) false (bi .sub .none (.int .u64 64) t20_7)) fun t21_8 =>
 M.bind (gd (strip t17_5) false (bi .gtr .none t19_6 t21_8)) fun t22_9 =>
 M.bind (pick (strip t17_5) (.bool true) t22_9) fun t23_10 =>
 M.bind (gd (strip t23_10) false (M.pure (strip a0))) fun t25_11 =>
 M.bind (gd (strip t23_10) false (nc P t25_11)) fun t26_12 =>
 M.bind (gd (strip t23_10) false (fa 1 t26_12)) fun t27_13 =>
 M.bind (gd (strip t23_10) false (fa 3 t27_13)) fun t28_14 =>
 M.bind (gd (strip t23_10) false (ld none false t28_14)) fun t29_15 =>
 M.bind (gd (strip t23_10) false (M.pure (strip t29_15))) fun t30_16 =>
 M.bind (gd t30_16 true (M.pure (strip a0))) fun t31_17 =>
 M.bind (gd t30_16 true (nc P t31_17)) fun t32_18 =>
 M.bind (gd t30_16 true (fa 1 t32_18)) fun t33_19 =>
 M.bind (gd t30_16 true (fa 2 t33_19)) fun t34_20 =>
 M.bind (gd t30_16 true (ld none false t34_20)) fun t35_21 =>
 M.bind (gd t30_16 true (M.pure (strip t10_0))) fun t36_22 =>
 M.bind (gd t30_16 true (bi .lss .none t35_21 t36_22)) fun t37_23 =>
 M.bind (gd t30_16 true (M.pure (strip t37_23))) fun t38_24 =>
 M.bind (gd t38_24 false (M.pure (strip a1))) fun t39_25 =>
 M.bind (gd t38_24 false (M.pure (strip a0))) fun t40_26 =>
 M.bind (gd t38_24 false (nc P t40_26)) fun t41_27 =>
 M.bind (gd t38_24 false (fa 1 t41_27)) fun t42_28 =>
 M.bind (gd t38_24 false (fa 2 t42_28)) fun t43_29 =>
 M.bind (gd t38_24 false (ld none false t43_29)) fun t44_30 =>
 M.bind (gd t38_24 false (M.pure (strip t10_0))) fun t45_31 =>
 M.bind (gd t38_24 false (bi .sub .none t44_30 t45_31)) fun t46_32 =>
 M.bind (gd t38_24 false (bi .gtr .none t39_25 t46_32)) fun t47_33 =>
 M.bind (gd t30_16 true (pick t38_24 (.bool true) t47_33)) fun t48_34 =>
 M.bind (gd (strip t23_10) false (pick t30_16 t48_34 (.bool false))) fun t49_35 =>
 M.bind (pick (strip t23_10) (.bool true) t49_35) fun t50_36 =>
 condM t50_36
 (M.pure (.tup [(.int .u64 0), (.bool false)]))
 (M.bind (C u0z [(strip (strip a0)), (strip (strip a1))]) fun t53_37 =>
 resT t10_0 (M.pure (.tup [t10_0, (.bool true)])))) := by
 rw [C, u1f _ _ rfl]; kernel_rfl
noncomputable def u0f (v0 v1 v6 v7 v8 v21 v22 : PV) : M PV := atP P X u0w [1, 1, 1, 0, 1, 0] (mkEnv 37 0 [(0, v0), (1, v1), (6, v6), (7, v7), (8, v8), (21, v21), (22, v22)])
theorem u16 (v0 v1 v6 v7 v8 v21 v22 : PV) : u0f v0 v1 v6 v7 v8 v21 v22 =
 M.bind (bi .lss .none v22 v21) fun t23_0 =>
 condM t23_0
 (M.bind (bi .add .none (strip v1) (strip v22)) fun t29_1 =>
 M.bind (C u19 [(strip (strip v0)), (strip t29_1)]) fun t30_2 =>
 M.bind (nc P t30_2) fun t31_3 =>
 M.bind (ld none false t31_3) fun t32_4 =>
 M.bind (bs true none [t32_4]) fun t33_5 =>
 M.bind (ap true 1 1 v8 t33_5) fun t34_6 =>
 M.bind (bi .add .none (strip v22) (.int .u64 1)) fun t35_7 =>
 u0f v0 v1 v6 v7 t34_6 v21 (strip t35_7))
 (resT v8 (M.pure (.tup [v8, (.int .i64 0)]))) :=
 (u4l P X _ _ _).trans (by kernel_rfl)
theorem u1z (a0 a1 a2 : PV) : C u0w [a0, a1, a2] =
 trunc (M.bind (C u0p [(strip (strip a0))]) fun t12_0 =>
 condM t12_0
 (M.pure (.tup [(.slice false true 0 []), (.int .i64 7)]))
 (M.bind (C u17 [(strip (strip a0)), (strip (strip a1)), (strip (strip a2))]) fun t17_1 =>
 M.bind (un .not t17_1) fun t18_2 =>
 condM t18_2
 (M.pure (.tup [(.slice false true 0 []), (.int .i64 210)]))
 (M.bind (mk true 1 1 (.int .i64 0) (strip a2)) fun t20_3 =>
 u0f a0 a1 (.slice false true 0 []) (.int .i64 0) t20_3 (strip a2) (.int .u64 0)))) := by
 rw [C, u1f _ _ rfl]; kernel_rfl
noncomputable def u0s (v0 v4 v5 : PV) : M PV := atP P X u0z [1, 0] (mkEnv 18 0 [(0, v0), (4, v4), (5, v5)])
theorem u1e (v0 v4 v5 : PV) : u0s v0 v4 v5 =
 M.bind (bi .lss .none v5 v4) fun t6_0 =>
 condM t6_0
 (M.bind (nc P (strip v0)) fun t9_1 =>
 M.bind (fa 5 t9_1) fun t10_2 =>
 M.bind (ld none true t10_2) fun t11_3 =>
 M.bind (alZ P 51) fun t12_4 =>
 M.bind (bsL 1 [t12_4]) fun t13_5 =>
 M.bind (apL true none 1 8 true t11_3 t13_5) fun t14_6 =>
 M.bind (nc P (strip v0)) fun t15_7 =>
 M.bind (fa 5 t15_7) fun t16_8 =>
 M.bind (stG true 1 true t16_8 t14_6) fun _ =>
 M.bind (bi .add .none v5 (.int .u64 1)) fun t17_10 =>
 u0s v0 v4 (strip t17_10))
 (M.pure (.tup [])) :=
 (u4l P X _ _ _).trans (by kernel_rfl)
theorem u3z (a0 a1 : PV) : C u0z [a0, a1] =
 truncE (u0s a0 (strip a1) (.int .u64 0)) := by
 rw [C, u1f _ _ rfl]; kernel_rfl
theorem u3f (a0 : PV) : C u0p [a0] =
 trunc (M.bind (bi .eql .ptr (strip a0) .nil) fun t4_0 =>
 M.bind (gd (strip t4_0) false (M.pure (strip a0))) fun t6_1 =>
 M.bind (gd (strip t4_0) false (nc P t6_1)) fun t7_2 =>
 M.bind (gd (strip t4_0) false (fa 0 t7_2)) fun t8_3 =>
 M.bind (gd (strip t4_0) false (ld none false t8_3)) fun t9_4 =>
 M.bind (gd (strip t4_0) false (un .not t9_4)) fun t10_5 =>
 M.bind (pick (strip t4_0) (.bool true) t10_5) fun t11_6 =>
 resT t11_6 (M.pure t11_6)) := by
 rw [C, u1f _ _ rfl]; kernel_rfl
theorem u3y (a0 a1 a2 : PV) : C u17 [a0, a1, a2] =
 trunc (M.bind (C u09 [(strip (strip a0))]) fun t10_0 =>
 M.bind (bi .mul .none t10_0 (.int .u64 65536)) fun t11_1 =>
 M.bind (C u4c [(strip (strip a1)), (strip (strip a2)), (strip t11_1)]) fun t12_2 =>
 resT t12_2 (M.pure t12_2)) := by
 rw [C, u1f _ _ rfl]; kernel_rfl
theorem u46 (a0 a1 : PV) : C u19 [a0, a1] =
 trunc (M.bind (nc P (strip a0)) fun t6_0 =>
 M.bind (fa 5 t6_0) fun t7_1 =>
 M.bind (ld none false t7_1) fun t8_2 =>
 M.bind (bi .quo .none (strip a1) (.int .u64 65536)) fun t10_3 =>
 M.bind (iaS 1 t8_2 t10_3) fun t11_4 =>
 M.bind (ld none false t11_4) fun t12_5 =>
 M.bind (bi .rem .none (strip a1) (.int .u64 65536)) fun t14_6 =>
 M.bind (nc P t12_5) fun t15_7 =>
 M.bind (iaA 65536 1 t15_7 t14_6) fun t16_8 =>
 resT t16_8 (M.pure t16_8)) := by
 rw [C, u1f _ _ rfl]; kernel_rfl
theorem ubh (a0 a1 a2 : PV) : C u4c [a0, a1, a2] =
 trunc (M.bind (bi .leq .none (strip a0) (strip a2)) fun t9_0 =>
 M.bind (gd (strip t9_0) true (M.pure (strip a1))) fun t11_1 =>
 M.bind (gd (strip t9_0) true (M.pure (strip a2))) fun t12_2 =>
 M.bind (gd (strip t9_0) true (M.pure (strip a0))) fun t13_3 =>
 M.bind (gd (strip t9_0) true (bi .sub .none t12_2 t13_3)) fun t14_4 =>
 M.bind (gd (strip t9_0) true (bi .leq .none t11_1 t14_4)) fun t15_5 =>
 M.bind (pick (strip t9_0) t15_5 (.bool false)) fun t16_6 =>
 resT t16_6 (M.pure t16_6)) := by
 rw [C, u1f _ _ rfl]; kernel_rfl
end Go.Proofs.Ytjcffopjohkmaaa.Pi.Q
namespace Go.Proofs.Ytjcffopjohkmaaa.Pi.Q
open Go Go.Proofs.Ytjcffopjohkmaaa.Pi
attribute [local congr] ite_congr
def page (D : Nat → UInt8) (i : Nat) : List PV := (List.range 65536).map fun j => byt (D (65536 * i + j))
theorem u1u (D : Nat → UInt8) (i : Nat) : (page D i).length = 65536 := by simp [page]
theorem u5s {D : Nat → UInt8} {i j : Nat} (h : j < 65536) : (page D i)[j]? = some (byt (D (65536 * i + j))) := by simp [page, h]
theorem ukc {D : Nat → UInt8} {i j : Nat} (h : j < 65536) : nth (page D i) j = some (byt (D (65536 * i + j))) := by rw [← nth_is]; exact u5s h
def upd (D : Nat → UInt8) (n : Nat) (x : UInt8) : Nat → UInt8 := fun k => if k = n then x else D k
theorem ukl {D : Nat → UInt8} {n : Nat} {x : UInt8} : fillAt (n % 65536) [byt x] (page D (n / 65536)) = page (upd D n x) (n / 65536) := by
  have hn : n % 65536 < 65536 := Nat.mod_lt _ (by omega)
  have hl : (fillAt (n % 65536) [byt x] (page D (n / 65536))).length = 65536 := by
    rw [u26 (by rw [u1u]; simp; omega), u1u]
  apply List.ext_getElem?
  intro j
  by_cases hj : j < 65536
  · rw [u29 (by rw [u1u]; simp; omega), u5s (D := upd D n x) hj]
    by_cases h1 : j = n % 65536
    · subst h1
      have e : upd D n x (65536 * (n / 65536) + n % 65536) = x := by unfold upd; rw [if_pos (by omega)]
      rw [if_pos ⟨Nat.le_refl _, by simp⟩, Nat.sub_self, e]
      rfl
    · have e : upd D n x (65536 * (n / 65536) + j) = D (65536 * (n / 65536) + j) := by unfold upd; rw [if_neg (by omega)]
      rw [if_neg (by simp; omega), u5s hj, e]
  · rw [List.getElem?_eq_none (by omega), List.getElem?_eq_none (by rw [u1u]; omega)]
theorem ug3 {D : Nat → UInt8} {n i : Nat} {x : UInt8} (h : i ≠ n / 65536) : page (upd D n x) i = page D i := by
  unfold page
  apply List.map_congr_left
  intro j hj
  have hj := List.mem_range.mp hj
  unfold upd
  rw [if_neg (by omega)]
structure MemOk (K : Heap) (c : Nat) (l0 : Bool) (mn mx : Int) (hx : Bool) (pgs : List Nat) (D : Nat → UInt8) : Prop where
  lt : ∀ g ∈ pgs, c < g
  c : ∃ pv, hget K c = some (.cells [.bool true, .bool l0, .int .u64 mn, .int .u64 mx, .bool hx, pv]) ∧ ((pgs = [] ∧ pv = .slice false true 0 []) ∨ ∃ k, pv = .win k 0 1 pgs.length ∧ (pgs ≠ [] ∧ c < k) ∧ hget K k = some (.cells (pgs.map fun i => .ptr i 0)))
  p : ∀ (i g : Nat), pgs[i]? = some g → hget K g = some (.cells (page D i))
  nd : pgs.Nodup
  z : ∀ i, 65536 * pgs.length ≤ i → D i = 0
variable {K : Heap} {c : Nat} {l0 hx : Bool} {mn mx : Int} {pgs : List Nat} {D : Nat → UInt8}
theorem ua1 (h : MemOk K c l0 mn mx hx pgs D) : run (C u0p [.ptr c 0]) K = some (.ok (.bool false) K) := by
  obtain ⟨pv, hc, _⟩ := h.c
  rw [u3f]
  simp +contextual -dsimp (disch := omega) only [↓goDown, goUp, cr, simprocAttr, hc, udj, u3a, Bool.not_true, Bool.not_false]
theorem u4w (h : MemOk K c l0 mn mx hx pgs D) (hp : pgs.length ≤ 64) : run (C u09 [.ptr c 0]) K = some (.ok (.int .u64 pgs.length) K) := by
  have hn := ua1 h
  obtain ⟨pv, hc, hpv⟩ := h.c
  rw [u3d]
  rcases hpv with ⟨rfl, rfl⟩ | ⟨k, rfl, _, _⟩
  · simp +contextual -dsimp (disch := omega) only [↓goDown, goUp, cr, simprocAttr, hc, hn]
  · simp +contextual -dsimp (disch := omega) only [↓goDown, goUp, cr, simprocAttr, hc, hn, uj9, ubk, u96, ua7]
theorem in_is {a n b : Int} (ha : 0 ≤ a ∧ a ≤ 18446744073709551615) (hn : 0 ≤ n ∧ n ≤ 18446744073709551615) (hb : 0 ≤ b ∧ b ≤ 18446744073709551615) : run (C u4c [.int .u64 a, .int .u64 n, .int .u64 b]) K = some (.ok (.bool (decide (a ≤ b) && decide (n ≤ b - a))) K) := by
  rw [ubh]
  by_cases h1 : a ≤ b
  · simp +contextual -dsimp (disch := omega) only [↓goDown, goUp, cr, simprocAttr, eq_true h1, decide_true, Bool.true_and]
  · simp +contextual -dsimp (disch := omega) only [↓goDown, goUp, cr, simprocAttr, eq_false h1, decide_false, Bool.false_and]
theorem has_is (h : MemOk K c l0 mn mx hx pgs D) (hp : pgs.length ≤ 64) {a n : Int} (ha : 0 ≤ a ∧ a ≤ 18446744073709551615) (hn : 0 ≤ n ∧ n ≤ 18446744073709551615) :
    run (C u17 [.ptr c 0, .int .u64 a, .int .u64 n]) K = some (.ok (.bool (decide (a ≤ 65536 * pgs.length) && decide (n ≤ 65536 * pgs.length - a))) K) := by
  have hs := u4w h hp
  have hm : ((pgs.length : Int) * 65536) = 65536 * pgs.length := by omega
  have hi := in_is (K := K) ha hn (b := 65536 * pgs.length) (by omega)
  rw [u3y]
  simp +contextual -dsimp (disch := omega) only [↓goDown, goUp, cr, simprocAttr, hs, hm, hi]
theorem at_is (h : MemOk K c l0 mn mx hx pgs D) (hp : pgs.length ≤ 64) {n g : Nat} (hn : pgs[n / 65536]? = some g) : run (C u19 [.ptr c 0, .int .u64 n]) K = some (.ok (.ptr g (n % 65536)) K) := by
  have hlt := (List.getElem?_eq_some_iff.mp hn).1
  obtain ⟨pv, hc, hpv⟩ := h.c
  rw [u46]
  rcases hpv with ⟨rfl, rfl⟩ | ⟨k, rfl, _, hk⟩
  · simp at hlt
  · have hg : nth (pgs.map fun i => PV.ptr i 0) (n / 65536) = some (.ptr g 0) := by rw [← nth_is, List.getElem?_map, hn]; rfl
    have hlk : g < K.length := get_lt (h.p _ _ hn)
    have e1 : ((n : Int).tdiv 65536).toNat = n / 65536 := by rw [Int.tdiv_eq_ediv_of_nonneg (by omega)]; omega
    have e0 : (n : Int).tdiv 65536 = ((n / 65536 : Nat) : Int) := by rw [Int.tdiv_eq_ediv_of_nonneg (by omega)]; omega
    have e2 : (n : Int).tmod 65536 = ((n % 65536 : Nat) : Int) := by rw [Int.tmod_eq_emod_of_nonneg (by omega)]; omega
    simp +contextual -dsimp (disch := omega) only [↓goDown, goUp, cr, simprocAttr, hc, hk, uj9, ubk, u96, ua7, ul4, e0, e2, hg, Int.toNat_natCast, Nat.zero_add, Nat.mul_one, ul0]
end Go.Proofs.Ytjcffopjohkmaaa.Pi.Q
namespace Go.Proofs.Ytjcffopjohkmaaa.Pi.Q
open Go Go.Proofs.Ytjcffopjohkmaaa.Pi
noncomputable def tr (n : Nat) : List Value := Nat.rec [Value.int .u8 0, Value.int .u8 0, Value.int .u8 0, Value.int .u8 0, Value.int .u8 0, Value.int .u8 0, Value.int .u8 0, Value.int .u8 0, Value.int .u8 0, Value.int .u8 0, Value.int .u8 0, Value.int .u8 0, Value.int .u8 0, Value.int .u8 0, Value.int .u8 0, Value.int .u8 0, Value.int .u8 0, Value.int .u8 0, Value.int .u8 0, Value.int .u8 0, Value.int .u8 0, Value.int .u8 0, Value.int .u8 0, Value.int .u8 0, Value.int .u8 0, Value.int .u8 0, Value.int .u8 0, Value.int .u8 0, Value.int .u8 0, Value.int .u8 0, Value.int .u8 0, Value.int .u8 0, Value.int .u8 0, Value.int .u8 0, Value.int .u8 0, Value.int .u8 0, Value.int .u8 0, Value.int .u8 0, Value.int .u8 0, Value.int .u8 0, Value.int .u8 0, Value.int .u8 0, Value.int .u8 0, Value.int .u8 0, Value.int .u8 0, Value.int .u8 0, Value.int .u8 0, Value.int .u8 0, Value.int .u8 0, Value.int .u8 0, Value.int .u8 0, Value.int .u8 0, Value.int .u8 0, Value.int .u8 0, Value.int .u8 0, Value.int .u8 0, Value.int .u8 0, Value.int .u8 0, Value.int .u8 0, Value.int .u8 0, Value.int .u8 0, Value.int .u8 0, Value.int .u8 0, Value.int .u8 0] (fun _ l => List.append l l) n
theorem tr_is : ∀ n, tr n = List.replicate (64 * 2 ^ n) (Value.int .u8 0)
  | 0 => rfl
  | n + 1 => by
    show tr n ++ tr n = _
    rw [tr_is n, List.replicate_append_replicate, Nat.pow_succ]
    congr 1
    omega
theorem info51 : P.info? 51 = some Try.t51 := by kernel_rfl
theorem zero51 : Try.t51.zero = some (.agg (tr 10).toArray) := by kernel_rfl
theorem u3v : ∀ n, ofVs (List.replicate n (Value.int .u8 0)) = some (List.replicate n (PV.int .u8 0))
  | 0 => rfl
  | n + 1 => by
    rw [List.replicate_succ, ofVs, u3v n]
    rfl
theorem uii {i : Nat} : page (fun _ => 0) i = List.replicate 65536 (PV.int .u8 0) := by
  unfold page
  rw [show (fun j => byt ((fun _ => (0 : UInt8)) (65536 * i + j))) = fun _ => PV.int .u8 0 from rfl, List.map_const', List.length_range]
theorem uk0 {K : Heap} : run (alZ P 51) K = some (.ok (.ptr K.length 0) (hadd K [.cells (List.replicate 65536 (PV.int .u8 0))])) := by
  rw [ult info51 zero51, tr_is 10]
  have e : (64 * 2 ^ 10) = 65536 := by decide
  rw [e]
  generalize 65536 = n
  have : ofV (.agg (List.replicate n (Value.int .u8 0)).toArray) = .agg (List.replicate n (PV.int .u8 0)) := by
    show (match ofVs (List.replicate n (Value.int .u8 0)).toArray.toList with | some l => PV.agg l | none => .undef) = _
    rw [List.toList_toArray, u3v]
  rw [this]
  have hc : okC (PV.agg (List.replicate n (PV.int .u8 0))).cells = List.replicate n (PV.int .u8 0) := by
    show okC (List.replicate n (PV.int .u8 0)) = _
    unfold okC
    rw [show (List.replicate n (PV.int .u8 0)).all isCell = true from by
      rw [List.all_replicate]; simp [isCell]]
    rfl
  rw [hc]
end Go.Proofs.Ytjcffopjohkmaaa.Pi.Q
namespace Go.Proofs.Ytjcffopjohkmaaa.Pi.Q
open Go Go.Proofs.Ytjcffopjohkmaaa.Pi
attribute [local congr] ite_congr
variable {K : Heap} {c : Nat} {l0 hx : Bool} {mn mx : Int} {pgs : List Nat} {D : Nat → UInt8}
theorem uhs {l : List Nat} (h : l.Nodup) {i j x : Nat} (hi : l[i]? = some x) (hj : l[j]? = some x) : i = j := by
  exact (List.getElem?_inj (List.getElem?_eq_some_iff.mp hi).1 h).mp (hi.trans hj.symm)
theorem nsM {p : Nat} : ((p + 1 : Nat) : Int) = (p : Int) + 1 := rfl
theorem irr {p : Int} : (p < p) = False := eq_false (Int.lt_irrefl p)
theorem MemOk.ne (h : MemOk K c l0 mn mx hx pgs D) {i g : Nat} (hg : pgs[i]? = some g) : g ≠ c := by
  intro e
  subst e
  obtain ⟨pv, hc, _⟩ := h.c
  have := h.p i g hg
  rw [hc] at this
  have h2 := congrArg (fun b : Option Box => match b with | some (.cells cs) => cs.length | _ => 0) this
  simp [u1u] at h2
theorem MemOk.nk (h : MemOk K c l0 mn mx hx pgs D) {i g k : Nat} (hg : pgs[i]? = some g) (hn : pgs ≠ []) (hk : hget K k = some (.cells (pgs.map fun i => .ptr i 0))) : g ≠ k := by
  intro e
  subst e
  have := h.p i g hg
  rw [hk] at this
  cases pgs with
  | nil => exact hn rfl
  | cons a r =>
    simp only [Option.some.injEq, Box.cells.injEq, List.map_cons] at this
    have h0 := congrArg (fun l : List PV => l[0]?) this
    simp only [List.getElem?_cons_zero] at h0
    rw [u5s (by omega)] at h0
    cases h0
theorem MemOk.put (h : MemOk K c l0 mn mx hx pgs D) {n g : Nat} {x : UInt8} (hn : pgs[n / 65536]? = some g) : MemOk (hset K g (.cells (page (upd D n x) (n / 65536)))) c l0 mn mx hx pgs (upd D n x) := by
  have hlt := (List.getElem?_eq_some_iff.mp hn).1
  refine ⟨h.lt, ?_, fun i q hq => ?_, h.nd, fun i hi => ?_⟩
  · obtain ⟨pv, hc, hpv⟩ := h.c
    refine ⟨pv, by rw [u1b (h.ne hn)]; exact hc, hpv.imp id fun ⟨k, h1, h2, h3⟩ => ⟨k, h1, h2, by rw [u1b (h.nk hn h2.1 h3)]; exact h3⟩⟩
  · by_cases e : q = g
    · subst e
      have := uhs h.nd hq hn
      subst this
      exact u6a (get_lt (h.p _ _ hn))
    · rw [u1b (fun h => e h.symm), h.p i q hq, ug3 (fun e' => by subst e'; rw [hn] at hq; exact e (Option.some.inj hq).symm)]
  · unfold upd
    rw [if_neg (by omega)]
    exact h.z i hi
def Same (pgs : List Nat) (K K' : Heap) : Prop := List.length K' = List.length K ∧ ∀ q, q ∉ pgs → hget K' q = hget K q
theorem Same.refl : Same pgs K K := ⟨rfl, fun _ _ => rfl⟩
theorem Same.trans {K1 K2 : Heap} (h : Same pgs K K1) (k : Same pgs K1 K2) : Same pgs K K2 := ⟨k.1.trans h.1, fun q hq => (k.2 q hq).trans (h.2 q hq)⟩
theorem Same.set {g : Nat} {b : Box} {i : Nat} (hg : pgs[i]? = some g) : Same pgs K (hset K g b) := ⟨u2i, fun q hq => u1b (fun e => hq (e ▸ List.mem_of_getElem? hg))⟩
def wr (D : Nat → UInt8) (at_ : Nat) (b : List UInt8) (j : Nat) : Nat → UInt8 := fun k => if at_ + j ≤ k ∧ k < at_ + b.length then b.getD (k - at_) 0 else D k
theorem wr_all {at_ : Nat} {b : List UInt8} : wr D at_ b b.length = D := by
  funext k
  unfold wr
  rw [if_neg (by omega)]
theorem ulq {at_ j : Nat} {b : List UInt8} (h : j < b.length) : wr (upd D (at_ + j) b[j]) at_ b (j + 1) = wr D at_ b j := by
  funext k
  unfold wr upd
  by_cases h1 : k = at_ + j
  · subst h1
    rw [if_neg (by omega), if_pos rfl, if_pos (by omega), show at_ + j - at_ = j by omega]
    simp [List.getD, h]
  · by_cases h2 : at_ + (j + 1) ≤ k ∧ k < at_ + b.length
    · rw [if_pos h2, if_pos (by omega)]
    · rw [if_neg h2, if_neg h1, if_neg (by omega)]
theorem ulp (h : MemOk K c l0 mn mx hx pgs D) {n g : Nat} {x : UInt8} (hn : pgs[n / 65536]? = some g) : run (st 1 true (.ptr g (n % 65536)) (byt x)) K = some (.ok .undef (hset K g (.cells (page (upd D n x) (n / 65536))))) := by
  have hp := h.p _ _ hn
  rw [run_st, hp, stB_is, if_pos ⟨rfl, by rw [u1u]; omega, by simp [byt, PV.cells, lowL, PV.low], rfl⟩, if_pos rfl, ← ukl]
  rfl
theorem ia_byt {z : Bool} {b : List UInt8} {j : Nat} (h : j < b.length) {K : Heap} : run (iaS 1 (.slice false z 1 (bytes b)) (.int .i64 j)) K = some (.ok (.elem [byt b[j]]) K) := by
  rw [ud0 (by omega)]
  have : (bytes b)[((j : Int)).toNat]? = some (byt b[j]) := by simp [h]
  rw [this]
  rfl
theorem uhl {n : Nat} (h : n < 65536 * pgs.length) : ∃ g, pgs[n / 65536]? = some g := ⟨pgs[n / 65536]'(by omega), List.getElem?_eq_getElem (by omega)⟩
theorem u8f {z : Bool} {b : List UInt8} {at_ : Nat} {v6 : PV} (hp : pgs.length ≤ 64) (hfit : at_ + b.length ≤ 65536 * pgs.length) : ∀ (m j : Nat) (K : Heap) (D : Nat → UInt8), j + m = b.length → MemOk K c l0 mn mx hx pgs D →
    ∃ K', run (u0e (.ptr c 0) (.int .u64 at_) v6 (.slice false z 1 (bytes b)) (.int .i64 b.length) (.int .i64 j)) K = some (.ok (.int .i64 0) K') ∧ MemOk K' c l0 mn mx hx pgs (wr D at_ b j) ∧ Same pgs K K'
  | 0, j, K, D, h, hm => by
    have hj : j = b.length := by omega
    subst hj
    refine ⟨K, ?_, by rw [wr_all]; exact hm, Same.refl⟩
    rw [u14]
    simp +contextual -dsimp (disch := omega) only [↓goDown, goUp, cr, simprocAttr, irr]
  | m + 1, j, K, D, h, hm => by
    have hj : j < b.length := by omega
    obtain ⟨g, hg⟩ := uhl (pgs := pgs) (n := at_ + j) (by omega)
    obtain ⟨K', h1, h2, h3⟩ := u8f (z := z) (v6 := v6) hp hfit m (j + 1) _ _ (by omega) (hm.put (x := b[j]) hg)
    rw [ulq hj] at h2
    refine ⟨K', ?_, h2, (Same.set hg).trans h3⟩
    rw [← h1, u14]
    have hat := at_is hm hp hg
    rw [Int.natCast_add] at hat
    have hst := ulp (x := b[j]) hm hg
    have c1 : ((j : Int) < b.length) = True := eq_true (by omega)
    have hia : ∀ K, run (iaS 1 (.slice false z 1 (bytes b)) (.int .i64 j)) K = some (.ok (.elem [byt b[j]]) K) := fun K => ia_byt hj
    simp +contextual -dsimp (disch := omega) only [↓goDown, goUp, cr, simprocAttr, c1, hia, hat, hst, nsM]
theorem uk2 {z : Bool} {b : List UInt8} {at_ : Nat} (hm : MemOk K c l0 mn mx hx pgs D) (hp : pgs.length ≤ 64) (hb : b.length ≤ 140737488351232) (ha : at_ ≤ 18446744073709551615) :
    if at_ + b.length ≤ 65536 * pgs.length then ∃ K', run (C u0k [.ptr c 0, .int .u64 at_, .slice false z 1 (bytes b)]) K = some (.ok (.int .i64 0) K') ∧ MemOk K' c l0 mn mx hx pgs (wr D at_ b 0) ∧ Same pgs K K'
    else run (C u0k [.ptr c 0, .int .u64 at_, .slice false z 1 (bytes b)]) K = some (.ok (.int .i64 210) K) := by
  have hn := ua1 hm
  have hh := has_is hm hp (a := at_) (n := b.length) (by omega) (by omega)
  have hl : (bytes b).length = b.length := by simp
  split
  · rename_i hfit
    obtain ⟨K', h1, h2, h3⟩ := u8f (z := z) (v6 := .int .i64 0) hp hfit b.length 0 K D (by omega) hm
    refine ⟨K', ?_, h2, h3⟩
    have hlen := h3.1
    have e1 : (((at_ : Int) ≤ 65536 * pgs.length) = True) := eq_true (by omega)
    have e2 : (((b.length : Int) ≤ 65536 * pgs.length - at_) = True) := eq_true (by omega)
    have hcut : hcut K' K.length = K' := ua2 hlen.symm
    rw [u1r]
    have h1 : run (u0e (.ptr c 0) (.int .u64 at_) (.int .i64 0) (.slice false z 1 (bytes b)) (.int .i64 b.length) (.int .i64 0)) K = some (.ok (.int .i64 0) K') := h1
    simp +contextual -dsimp (disch := omega) only [↓goDown, goUp, cr, simprocAttr, hn, hh, hl, e1, e2, decide_true, Bool.and_self, h1, hcut, u3a, Bool.not_true]
  · rename_i hfit
    have e1 : (decide ((at_ : Int) ≤ 65536 * pgs.length) && decide ((b.length : Int) ≤ 65536 * pgs.length - at_)) = false := by
      rw [Bool.and_eq_false_iff, decide_eq_false_iff_not, decide_eq_false_iff_not]
      omega
    rw [u1r]
    simp +contextual -dsimp (disch := omega) only [↓goDown, goUp, cr, simprocAttr, hn, hh, hl, e1, u3a, Bool.not_false]
def rd (D : Nat → UInt8) (at_ n : Nat) : List UInt8 := (List.range n).map fun i => D (at_ + i)
theorem u2k {at_ n : Nat} : (rd D at_ n).length = n := by simp [rd]
theorem uln {at_ n : Nat} : rd D at_ (n + 1) = rd D at_ n ++ [D (at_ + n)] := by simp [rd, List.range_succ]
theorem ap_byt {l : List UInt8} {x : UInt8} (h : l.length ≤ 140737488351232) : run (ap true 1 1 (.slice true false 1 (bytes l)) (.slice true false 1 [byt x])) K = some (.ok (.slice true false 1 (bytes (l ++ [x]))) K) := by
  unfold run
  have hg : growB 1 ((bytes l).length + 1) = true := by simp [growB]; omega
  show (bif true && ((1 : Nat) == 1 && growB 1 ((bytes l).length + [byt x].length)) then M.pure (PV.slice true false 1 (bytes l ++ [byt x])) else M.fail) K = _
  rw [show [byt x].length = 1 from rfl, hg]
  simp [M.pure]
theorem mk_byt {n : Nat} (h : n ≤ 140737488351232) : run (mk true 1 1 (.int .i64 0) (.int .u64 n)) K = some (.ok (.slice true false 1 []) K) := by
  unfold run mk
  have hg : growB 1 n = true := by simp [growB]; omega
  simp [hg, M.pure]
theorem ull {x : UInt8} : bsR true none [stripC (byt x)] K = some (.ok (.slice true false 1 [byt x]) K) := by simp [bsR, u0b, PV.flat, byt, stripC]
theorem ulo (h : MemOk K c l0 mn mx hx pgs D) {n g : Nat} (hn : pgs[n / 65536]? = some g) : run (ld none false (.ptr g (n % 65536))) K = some (.ok (byt (D n)) K) := by
  rw [run_ld, h.p _ _ hn, ldB_f, ukc (Nat.mod_lt _ (by omega)), u6m, show 65536 * (n / 65536) + n % 65536 = n by omega]
  rfl
theorem uas {at_ n : Nat} {v6 v7 : PV} (hm : MemOk K c l0 mn mx hx pgs D) (hp : pgs.length ≤ 64) (hfit : at_ + n ≤ 65536 * pgs.length) : ∀ (m j : Nat), j + m = n →
    run (u0f (.ptr c 0) (.int .u64 at_) v6 v7 (.slice true false 1 (bytes (rd D at_ j))) (.int .u64 n) (.int .u64 j)) K = some (.ok (.tup [.slice true false 1 (bytes (rd D at_ n)), .int .i64 0]) K)
  | 0, j, h => by
    have hj : j = n := by omega
    subst hj
    rw [u16]
    simp +contextual -dsimp (disch := omega) only [↓goDown, goUp, cr, simprocAttr, irr]
  | m + 1, j, h => by
    obtain ⟨g, hg⟩ := uhl (pgs := pgs) (n := at_ + j) (by omega)
    have ih := uas (v6 := v6) (v7 := v7) hm hp hfit m (j + 1) (by omega)
    rw [← ih, u16]
    have hat := at_is hm hp hg
    rw [Int.natCast_add] at hat
    have hld := ulo hm hg
    have c1 : ((j : Int) < n) = True := eq_true (by omega)
    have hap := ap_byt (K := K) (l := rd D at_ j) (x := D (at_ + j)) (by rw [u2k]; omega)
    rw [← uln] at hap
    simp +contextual -dsimp (disch := omega) only [↓goDown, goUp, cr, simprocAttr, c1, hat, hld, ull, hap, nsM]
theorem uhg {at_ n : Nat} (hm : MemOk K c l0 mn mx hx pgs D) (hp : pgs.length ≤ 64) (ha : at_ ≤ 18446744073709551615) (hn : n ≤ 18446744073709551615) : run (C u0w [.ptr c 0, .int .u64 at_, .int .u64 n]) K =
    if at_ + n ≤ 65536 * pgs.length then some (.ok (.tup [.slice true false 1 (bytes (rd D at_ n)), .int .i64 0]) K) else some (.ok (.tup [.slice false true 0 [], .int .i64 210]) K) := by
  have h0 := ua1 hm
  have hh := has_is hm hp (a := at_) (n := n) (by omega) (by omega)
  split
  · rename_i hfit
    have h1 := uas (v6 := .slice false true 0 []) (v7 := .int .i64 0) hm hp hfit n 0 (by omega)
    have h1 : run (u0f (.ptr c 0) (.int .u64 at_) (.slice false true 0 []) (.int .i64 0) (.slice true false 1 []) (.int .u64 n) (.int .u64 0)) K = some (.ok (.tup [.slice true false 1 (bytes (rd D at_ n)), .int .i64 0]) K) := h1
    have e1 : (((at_ : Int) ≤ 65536 * pgs.length) = True) := eq_true (by omega)
    have e2 : (((n : Int) ≤ 65536 * pgs.length - at_) = True) := eq_true (by omega)
    have hmk := mk_byt (K := K) (n := n) (by omega)
    rw [u1z]
    simp +contextual -dsimp (disch := omega) only [↓goDown, goUp, cr, simprocAttr, h0, hh, e1, e2, decide_true, Bool.and_self, h1, hmk, u3a, Bool.not_true]
  · rename_i hfit
    have e1 : (decide ((at_ : Int) ≤ 65536 * pgs.length) && decide ((n : Int) ≤ 65536 * pgs.length - at_)) = false := by
      rw [Bool.and_eq_false_iff, decide_eq_false_iff_not, decide_eq_false_iff_not]
      omega
    rw [u1z]
    simp +contextual -dsimp (disch := omega) only [↓goDown, goUp, cr, simprocAttr, h0, hh, e1, u3a, Bool.not_false]
end Go.Proofs.Ytjcffopjohkmaaa.Pi.Q
namespace Go.Proofs.Ytjcffopjohkmaaa.Pi.Q
open Go Go.Proofs.Ytjcffopjohkmaaa.Pi
attribute [local congr] ite_congr
variable {K : Heap} {c : Nat} {l0 hx : Bool} {mn mx : Int} {pgs : List Nat} {D : Nat → UInt8}
def fl (D : Nat → UInt8) (at_ n : Nat) (x : UInt8) (j : Nat) : Nat → UInt8 := fun k => if at_ + j ≤ k ∧ k < at_ + n then x else D k
end Go.Proofs.Ytjcffopjohkmaaa.Pi.Q
namespace Go.Proofs.Ytjcffopjohkmaaa.Pi.Q
open Go Go.Proofs.Ytjcffopjohkmaaa.Pi
attribute [local congr] ite_congr
variable {K : Heap} {c : Nat} {l0 hx : Bool} {mn mx : Int} {pgs : List Nat} {D : Nat → UInt8}
theorem MemOk.low (h : MemOk K c l0 mn mx hx pgs D) {g : Nat} (hg : g ∈ pgs) : g < K.length := by
  obtain ⟨i, hi⟩ := List.getElem?_of_mem hg
  exact get_lt (h.p i g hi)
theorem ul3 (h : MemOk K c l0 mn mx hx pgs D) (hp : pgs.length < 64) {b : Box} :
    ∃ pv K2, hget K c = some (.cells [.bool true, .bool l0, .int .u64 mn, .int .u64 mx, .bool hx, pv]) ∧ stripC pv = pv ∧ isTup pv = false ∧
      run (apL true none 1 8 true pv (.lit 1 1 [.ptr K.length 0])) (hadd K [b]) = some (.ok (.win (K.length + 1) 0 1 (pgs.length + 1)) K2) ∧
      List.length K2 = K.length + 2 ∧ hget K2 (K.length + 1) = some (.cells ((pgs ++ [K.length]).map fun i => .ptr i 0)) ∧ hget K2 K.length = some b ∧
      ∀ q, q ≤ c ∨ q ∈ pgs → hget K2 q = hget K q := by
  obtain ⟨pv, hc, hpv⟩ := h.c
  have hg : ∀ n, n < 65 → growB 8 n = true := by intro n hn; simp [growB]; omega
  have hL : List.length (hadd K [b]) = K.length + 1 := by rw [u48]; rfl
  have hcl : c < K.length := get_lt hc
  rcases hpv with ⟨rfl, rfl⟩ | ⟨k, rfl, hk, hk2⟩
  · have e := ukw (H := hadd K [b]) (own := true) (a := none) (sz := 1) (b := 8) (sx := 0) (m := 1) (cs := [PV.ptr K.length 0]) (by decide) (hg 1 (by omega))
    rw [hL, u7b] at e
    refine ⟨_, hadd K [b, .cells [PV.ptr K.length 0]], hc, rfl, rfl, e, by rw [u48]; rfl, ?_, ?_, fun q hq => ?_⟩
    · rw [u4x]; rfl
    · rw [u9g]; rfl
    · rcases hq with hq | hq
      · rw [u55 (by omega)]
      · cases hq
  · have hkl := get_lt hk2
    have e1 : hget (hadd K [b]) k = some (.cells (pgs.map fun i => .ptr i 0)) := by rw [u55 hkl, hk2]
    have e := uls (own := true) (a := none) (nw := true) (sz := 1) (b := 8) (n0 := pgs.length) (m := 1) (cs := [PV.ptr K.length 0]) e1 (by simp) (hg _ (by omega))
    rw [hL, u9t hkl, u7b, Nat.mul_one, List.take_of_length_le (by simp)] at e
    refine ⟨_, hadd (hset K k .dead) [b, .cells (pgs.map (fun i => PV.ptr i 0) ++ [PV.ptr K.length 0])], hc, rfl, rfl, e, by rw [u48, u2i]; rfl, ?_, ?_, fun q hq => ?_⟩
    · rw [u4g, List.map_append]; rfl
    · rw [u4e]; rfl
    · have h1 : q < K.length := by
        rcases hq with hq | hq
        · omega
        · exact h.low hq
      have h2 : k ≠ q := by
        rcases hq with hq | hq
        · omega
        · obtain ⟨i, hi⟩ := List.getElem?_of_mem hq
          exact fun e => h.nk hi hk.1 hk2 e.symm
      rw [u5q h1, u1b h2]
theorem ufp {n : Nat} (hn64 : n ≤ 64) : ∀ (m j : Nat) (K : Heap) (pgs : List Nat), j + m = n → pgs.length + m ≤ 64 → MemOk K c l0 mn mx hx pgs D →
    ∃ K' qs, run (u0s (.ptr c 0) (.int .u64 n) (.int .u64 j)) K = some (.ok (.tup []) K') ∧ MemOk K' c l0 mn mx hx (pgs ++ qs) D ∧ List.length qs = m ∧ K.length ≤ List.length K' ∧ (∀ q, q < c → hget K' q = hget K q) ∧ (m = 0 → K' = K)
  | 0, j, K, pgs, h, hl, hm => by
    have hj : j = n := by omega
    subst hj
    refine ⟨K, [], ?_, by rw [List.append_nil]; exact hm, rfl, Nat.le_refl _, fun _ _ => rfl, fun _ => rfl⟩
    rw [u1e]
    simp +contextual -dsimp (disch := omega) only [↓goDown, goUp, cr, simprocAttr, irr]
  | m + 1, j, K, pgs, h, hl, hm => by
    have hj : j < n := by omega
    obtain ⟨Z, hZ⟩ : ∃ Z, Z = List.replicate 65536 (PV.int .u8 0) := ⟨_, rfl⟩
    obtain ⟨pv, K2, hc, hs, ht, ha, hL, hk', hg, hq⟩ := ul3 hm (by omega) (b := .cells Z)
    have hcl := get_lt hc
    have hc2 : hget K2 c = some (.cells [.bool true, .bool l0, .int .u64 mn, .int .u64 mx, .bool hx, pv]) := by rw [hq c (Or.inl (Nat.le_refl _)), hc]
    have hst := ul7 (m := 1) (mv := true) (o := 5) (v := .win (K.length + 1) 0 1 (pgs.length + 1)) hc2 rfl (Nat.le_refl 6) rfl
    have e3 : fillAt 5 (if true = true then (PV.win (K.length + 1) 0 1 (pgs.length + 1)).cells else (PV.win (K.length + 1) 0 1 (pgs.length + 1)).cells.map stripC) [.bool true, .bool l0, .int .u64 mn, .int .u64 mx, .bool hx, pv] = [.bool true, .bool l0, .int .u64 mn, .int .u64 mx, .bool hx, .win (K.length + 1) 0 1 (pgs.length + 1)] := rfl
    rw [e3] at hst
    have hm3 : MemOk (hset K2 c (.cells [.bool true, .bool l0, .int .u64 mn, .int .u64 mx, .bool hx, .win (K.length + 1) 0 1 (pgs.length + 1)])) c l0 mn mx hx (pgs ++ [K.length]) D := by
      have hlp : (pgs ++ [K.length]).length = pgs.length + 1 := by simp
      refine ⟨fun g hg => ?_, ⟨_, u6a (by omega), Or.inr ⟨K.length + 1, by rw [hlp], ⟨by simp, by omega⟩, by rw [u1b (by omega), hk']⟩⟩, fun i g hi => ?_, ?_, fun i hi => hm.z i (by omega)⟩
      · rcases List.mem_append.mp hg with hg | hg
        · exact hm.lt g hg
        · rw [List.mem_singleton.mp hg]; exact hcl
      · rw [List.getElem?_append] at hi
        split at hi
        · have hne := hm.ne hi
          rw [u1b (fun e => hne e.symm), hq g (Or.inr (List.mem_of_getElem? hi)), hm.p i g hi]
        · rename_i hni
          have hi0 : i = pgs.length := by
            have := (List.getElem?_eq_some_iff.mp hi).1
            simp at this
            omega
          subst hi0
          rw [Nat.sub_self] at hi
          have hi : g = K.length := (Option.some.inj hi).symm
          subst hi
          rw [u1b (by omega), hg, hZ, ← uii (i := pgs.length)]
          congr 2
          unfold page
          apply List.map_congr_left
          intro k hk
          rw [hm.z (65536 * pgs.length + k) (by omega)]
      · rw [List.nodup_append]
        refine ⟨hm.nd, by simp, fun a ha b hb => ?_⟩
        rw [List.mem_singleton.mp hb]
        have := hm.low ha
        omega
    obtain ⟨K', qs, h1, h2, h3, h4, h5, h6⟩ := ufp hn64 m (j + 1) _ _ (by omega) (by simp; omega) hm3
    rw [List.append_assoc] at h2
    rw [u2i] at h4
    refine ⟨K', K.length :: qs, ?_, h2, by simp [h3], by omega, fun q hq' => ?_, fun h => by cases h⟩
    · rw [← h1, u1e]
      have c1 : ((j : Int) < n) = True := eq_true (by omega)
      have hss : hset K c (.cells [.bool true, .bool l0, .int .u64 mn, .int .u64 mx, .bool hx, pv]) = K := uje hc
      have hld : run (ld none true (.ptr c 5)) K = some (.ok pv K) := by
        rw [run_ld, hc, ldB_t]
        show some (Out.ok pv (hset K c (.cells [.bool true, .bool l0, .int .u64 mn, .int .u64 mx, .bool hx, stripC pv]))) = _
        rw [hs, hss]
      have hbs : run (bsL 1 [.ptr K.length 0]) (hadd K [.cells Z]) = some (.ok (.lit 1 1 [.ptr K.length 0]) (hadd K [.cells Z])) := uka rfl
      have hal := uk0 (K := K)
      rw [← hZ] at hal
      simp +contextual -dsimp (disch := omega) only [↓goDown, goUp, cr, simprocAttr, c1, hld, hal, hbs, ha, hst, nsM]
    · rw [h5 q hq', u1b (by omega), hq q (Or.inl (by omega))]
theorem MemOk.same_len {K' : Heap} {pgs' : List Nat} {D' : Nat → UInt8} (h : MemOk K c l0 mn mx hx pgs D) (h' : MemOk K' c l0 mn mx hx pgs' D') (e : hget K' c = hget K c) : pgs'.length = pgs.length := by
  obtain ⟨pv, hc, hpv⟩ := h.c
  obtain ⟨pv', hc', hpv'⟩ := h'.c
  rw [e, hc] at hc'
  have hc' := Option.some.inj hc'
  injection hc' with hc'
  injection hc' with _ hc'
  injection hc' with _ hc'
  injection hc' with _ hc'
  injection hc' with _ hc'
  injection hc' with _ hc'
  injection hc' with hc' _
  subst hc'
  rcases hpv with ⟨rfl, rfl⟩ | ⟨k, rfl, hk, hk2⟩ <;> rcases hpv' with ⟨rfl, h2⟩ | ⟨k', h2, hk', hk2'⟩
  · rfl
  · cases h2
  · cases h2
  · injection h2 with _ _ _ h2
    exact h2.symm
theorem grown {n : Nat} {K' : Heap} {qs : List Nat} {v : PV} (hm : MemOk K c l0 mn mx hx pgs D) (hm' : MemOk K' c l0 mn mx hx (pgs ++ qs) D) (hq : qs.length = n) (hK : n = 0 → K' = K) :
    u1s K (some (.ok v K')) = some (.ok v K') := by
  by_cases h0 : n = 0
  · rw [hK h0, u2n, hcut, List.take_length, ite_self]
  · refine ud1 fun e => ?_
    have hcl : c < K.length := by obtain ⟨pv, hc, _⟩ := hm.c; exact get_lt hc
    have e2 : hget K' c = hget K c := by
      have : hget (hcut K' K.length) c = hget K' c := by unfold hcut hget; rw [List.getElem?_take_of_lt hcl]
      rw [← this, e]
    have := hm.same_len hm' e2
    rw [List.length_append] at this
    omega
theorem add_is {n : Nat} (hn : pgs.length + n ≤ 64) (hm : MemOk K c l0 mn mx hx pgs D) :
    ∃ K' qs, run (C u0z [.ptr c 0, .int .u64 n]) K = some (.ok (.tup []) K') ∧ MemOk K' c l0 mn mx hx (pgs ++ qs) D ∧ List.length qs = n ∧ K.length ≤ List.length K' ∧ (∀ q, q < c → hget K' q = hget K q) ∧ (n = 0 → K' = K) := by
  obtain ⟨K', qs, h1, h2, h3, h4, h5, h6⟩ := ufp (n := n) (by omega) n 0 K pgs (by omega) hn hm
  refine ⟨K', qs, ?_, h2, h3, h4, h5, h6⟩
  have h1 : run (u0s (.ptr c 0) (strip (.int .u64 n)) (.int .u64 0)) K = some (.ok (.tup []) K') := h1
  rw [u3z, u0r, h1]
  exact grown hm h2 h3 h6
end Go.Proofs.Ytjcffopjohkmaaa.Pi.Q
namespace Go.Proofs.Ytjcffopjohkmaaa.Pi.Q
open Go Go.Proofs.Ytjcffopjohkmaaa.Pi
attribute [local congr] ite_congr
variable {K : Heap} {c : Nat} {l0 hx : Bool} {pgs : List Nat} {D : Nat → UInt8}
theorem ugx {H K : Heap} (hl : H.length ≤ List.length K) (h : ∀ q, q < H.length → hget K q = hget H q) : hcut K H.length = H := by
  unfold hcut
  apply List.ext_getElem?
  intro q
  by_cases hq : q < H.length
  · rw [List.getElem?_take_of_lt hq]
    exact h q hq
  · rw [List.getElem?_eq_none (by simp; omega), List.getElem?_eq_none (by omega)]
theorem new_ok {H : Heap} {mn mx cap : Nat} (hc : cap ≤ 64) (hmx : mx ≤ 18446744073709551615) (h1 : mn ≤ cap) (h2 : ¬ (hx = true ∧ mx < mn)) :
    ∃ c K pgs, run (C u0u [.agg [.bool l0, .int .u64 mn, .int .u64 mx, .bool hx], .int .u64 cap]) H = some (.ok (.tup [.ptr c 0, .int .i64 0]) K) ∧ MemOk K c l0 mn mx hx pgs (fun _ => 0) ∧ pgs.length = mn ∧ H.length ≤ c ∧ H.length ≤ List.length K ∧ (∀ q, q < H.length → hget K q = hget H q) := by
  have c1 : ((cap : Int) < mn) = False := eq_false (by omega)
  have c2 : ((64 : Int) < mn) = False := eq_false (by omega)
  have hm0 : MemOk (hadd H [.cells [.bool l0, .int .u64 mn, .int .u64 mx, .bool hx], .cells [.bool true, .bool l0, .int .u64 mn, .int .u64 mx, .bool hx, .slice false true 0 []]]) (H.length + 1) l0 mn mx hx [] (fun _ => 0) :=
    ⟨fun g hg => (by cases hg), ⟨_, by rw [u4x]; rfl, Or.inl ⟨rfl, rfl⟩⟩, fun i g hi => (by simp at hi), List.nodup_nil, fun _ _ => rfl⟩
  obtain ⟨K', qs, a1, a2, a3, a4, a5, a6⟩ := add_is (n := mn) (by simp; omega) hm0
  rw [u48] at a4
  have a4 : H.length + 2 ≤ List.length K' := a4
  refine ⟨H.length + 1, K', qs, ?_, a2, a3, by omega, by omega, fun q hq => by rw [a5 q (by omega), u55 hq]⟩
  have hlow : u1s H (some (.ok (.tup [.ptr (H.length + 1) 0, .int .i64 0]) K')) = some (.ok (.tup [.ptr (H.length + 1) 0, .int .i64 0]) K') := udf (by simp [PV.low, lowL])
  rw [← hlow, u2u]
  cases hx
  · simp +contextual -dsimp (disch := omega) only [↓goDown, goUp, cr, simprocAttr, u0r, c1, c2, decide_true, decide_false, a1]
  · have c3 : ((mx : Int) < mn) = False := eq_false (fun h => h2 ⟨rfl, by omega⟩)
    simp +contextual -dsimp (disch := omega) only [↓goDown, goUp, cr, simprocAttr, u0r, c1, c2, c3, decide_true, decide_false, a1]
theorem new_is {H : Heap} {mn mx cap : Nat} (hc : cap ≤ 64) (hmn : mn ≤ 18446744073709551615) (hmx : mx ≤ 18446744073709551615) :
    run (C u0u [.agg [.bool l0, .int .u64 mn, .int .u64 mx, .bool hx], .int .u64 cap]) H = some (.ok (.tup [.nil, .int .i64 211]) H) ∨
    run (C u0u [.agg [.bool l0, .int .u64 mn, .int .u64 mx, .bool hx], .int .u64 cap]) H = some (.ok (.tup [.nil, .int .i64 1]) H) ∨
    ∃ c K pgs, run (C u0u [.agg [.bool l0, .int .u64 mn, .int .u64 mx, .bool hx], .int .u64 cap]) H = some (.ok (.tup [.ptr c 0, .int .i64 0]) K) ∧ MemOk K c l0 mn mx hx pgs (fun _ => 0) ∧ pgs.length = mn ∧ H.length ≤ c ∧ H.length ≤ List.length K ∧ (∀ q, q < H.length → hget K q = hget H q) ∧ mn ≤ cap := by
  by_cases h1 : cap < mn
  · refine Or.inl ?_
    have c1 : ((cap : Int) < mn) = True := eq_true (by omega)
    have c1' : ((mn : Int) ≤ cap) = False := eq_false (by omega)
    rw [u2u]
    simp +contextual -dsimp (disch := omega) only [↓goDown, goUp, cr, simprocAttr, u0r, c1, c1', decide_true]
    exact u2z cutA0 rfl
  have c1 : ((cap : Int) < mn) = False := eq_false (by omega)
  have c2 : ((64 : Int) < mn) = False := eq_false (by omega)
  by_cases h2 : hx = true ∧ mx < mn
  · refine Or.inr (Or.inl ?_)
    obtain ⟨rfl, h2⟩ := h2
    have c3 : ((mx : Int) < mn) = True := eq_true (by omega)
    rw [u2u]
    simp +contextual -dsimp (disch := omega) only [↓goDown, goUp, cr, simprocAttr, u0r, c1, c2, c3, decide_true, decide_false]
    exact u2z cutA0 rfl
  · refine Or.inr (Or.inr ?_)
    obtain ⟨c, K, pgs, e1, e2, e3, e4, e5, e6⟩ := new_ok (l0 := l0) (H := H) hc hmx (by omega) h2
    exact ⟨c, K, pgs, e1, e2, e3, e4, e5, e6, by omega⟩
theorem ulr {mn mx n cap : Nat} (hm : MemOk K c l0 mn mx hx pgs D) (hp : pgs.length ≤ 64) (hc : cap ≤ 64) (hmx : mx ≤ 18446744073709551615) (hn : n ≤ 18446744073709551615) :
    run (C u0q [.ptr c 0, .int .u64 n, .int .u64 cap]) K = some (.ok (.tup [.int .u64 0, .bool false]) K) ∨
    ∃ K' qs, run (C u0q [.ptr c 0, .int .u64 n, .int .u64 cap]) K = some (.ok (.tup [.int .u64 pgs.length, .bool true]) K') ∧ MemOk K' c l0 mn mx hx (pgs ++ qs) D ∧ qs.length = n ∧ pgs.length + n ≤ 64 ∧ (∀ q, q < c → hget K' q = hget K q) ∧ K.length ≤ List.length K' := by
  have hs := u4w hm hp
  have h0 := ua1 hm
  obtain ⟨pv, hcc, _⟩ := hm.c
  by_cases h1 : n ≤ cap ∧ n ≤ 64 - pgs.length ∧ (hx = true → pgs.length ≤ mx ∧ n ≤ mx - pgs.length)
  · refine Or.inr ?_
    obtain ⟨K', qs, a1, a2, a3, a4, a5, a6⟩ := add_is (n := n) (by omega) hm
    refine ⟨K', qs, ?_, a2, a3, by omega, a5, a4⟩
    have hg := grown (v := .tup [.int .u64 pgs.length, .bool true]) hm a2 a3 a6
    rw [← hg, u23]
    have c1 : ((cap : Int) < n) = False := eq_false (by omega)
    have c2 : ((64 : Int) - pgs.length < n) = False := eq_false (by omega)
    cases hx
    · simp +contextual -dsimp (disch := omega) only [↓goDown, goUp, cr, simprocAttr, u0r, hs, h0, hcc, c1, c2, decide_true, decide_false, a1]
    · have h3 := h1.2.2 rfl
      have c3 : ((mx : Int) < pgs.length) = False := eq_false (by omega)
      have c4 : ((mx : Int) - pgs.length < n) = False := eq_false (by omega)
      simp +contextual -dsimp (disch := omega) only [↓goDown, goUp, cr, simprocAttr, u0r, hs, h0, hcc, c1, c2, c3, c4, decide_true, decide_false, a1]
  · refine Or.inl ?_
    have hg : u1s K (some (.ok (.tup [.int .u64 0, .bool false]) K)) = some (.ok (.tup [.int .u64 0, .bool false]) K) := u2z cut0 rfl
    rw [← hg, u23]
    by_cases d1 : cap < n
    · have c1 : ((cap : Int) < n) = True := eq_true (by omega)
      simp +contextual -dsimp (disch := omega) only [↓goDown, goUp, cr, simprocAttr, u0r, hs, h0, hcc, c1, decide_true, decide_false]
    have c1 : ((cap : Int) < n) = False := eq_false (by omega)
    by_cases d2 : 64 - pgs.length < n
    · have c2 : ((64 : Int) - pgs.length < n) = True := eq_true (by omega)
      simp +contextual -dsimp (disch := omega) only [↓goDown, goUp, cr, simprocAttr, u0r, hs, h0, hcc, c1, c2, decide_true, decide_false]
    have c2 : ((64 : Int) - pgs.length < n) = False := eq_false (by omega)
    cases hx
    · exact absurd ⟨by omega, by omega, fun h => by cases h⟩ h1
    by_cases d3 : mx < pgs.length
    · have c3 : ((mx : Int) < pgs.length) = True := eq_true (by omega)
      simp +contextual -dsimp (disch := omega) only [↓goDown, goUp, cr, simprocAttr, u0r, hs, h0, hcc, c1, c2, c3, decide_true, decide_false]
    have c3 : ((mx : Int) < pgs.length) = False := eq_false (by omega)
    by_cases d4 : mx - pgs.length < n
    · have c4 : ((mx : Int) - pgs.length < n) = True := eq_true (by omega)
      simp +contextual -dsimp (disch := omega) only [↓goDown, goUp, cr, simprocAttr, u0r, hs, h0, hcc, c1, c2, c3, c4, decide_true, decide_false]
    · exact absurd ⟨by omega, by omega, fun h => ⟨by omega, by omega⟩⟩ h1
theorem u9m {H : Heap} : run (C u0c []) H = some (.ok (.bool true) H) := by
  obtain ⟨c, K, pgs, hn, hm, hp, hc, hl, hf⟩ := new_ok (H := H) (l0 := false) (hx := false) (mn := 1) (mx := 0) (cap := 1) (by decide) (by decide) (by decide) (by decide)
  have hs := u4w hm (by omega)
  rw [hp] at hs
  have hg : u1s H (some (.ok (.bool true) K)) = some (.ok (.bool true) H) := u2z (ugx hl hf) rfl
  rw [← hg, u39]
  have hn : run (C u0u [.agg [.bool false, .int .u64 1, .int .u64 0, .bool false], .int .u64 1]) H = some (.ok (.tup [.ptr c 0, .int .i64 0]) K) := hn
  have hs : run (C u09 [.ptr c 0]) K = some (.ok (.int .u64 1) K) := hs
  simp +contextual -dsimp (disch := omega) only [↓goDown, goUp, cr, simprocAttr, u0r, hn, hs, uli]
end Go.Proofs.Ytjcffopjohkmaaa.Pi.Q
namespace Go.Proofs.Ytjcffopjohkmaaa.Pi.Q
open Go Go.Proofs.Ytjcffopjohkmaaa.Pi
attribute [local congr] ite_congr
variable {K : Heap} {c : Nat} {l0 hx : Bool} {pgs : List Nat} {D : Nat → UInt8}
theorem u8x : ∀ b : List UInt8, u1v (bytes b) = some b
  | [] => rfl
  | x :: r => by
    show (u1v (bytes r)).map (UInt8.ofNat ((x.toNat : Int)).toNat :: ·) = _
    rw [u8x r]
    simp
theorem ulh {z o : Bool} {b : List UInt8} {K : Heap} : run (cv .bytesToStr o (.slice false z 1 (bytes b))) K = some (.ok (.str ⟨b.toArray⟩) K) := by
  unfold run
  show (match u1v (bytes b) with | some l => M.pure (PV.str ⟨l.toArray⟩) | none => M.fail) K = _
  rw [u8x]
  rfl
theorem ulm {b d : List UInt8} {K : Heap} (h : b = d) : run (bi .neq .none (.str ⟨b.toArray⟩) (.str ⟨d.toArray⟩)) K = some (.ok (.bool false) K) := by
  subst h
  unfold run
  show M.pure (PV.bool (!((ByteArray.mk b.toArray).toList == (ByteArray.mk b.toArray).toList))) K = _
  rw [beq_self_eq_true]
  rfl
theorem rd_get {at_ n i : Nat} (h : i < n) : (rd D at_ n)[i]? = some (D (at_ + i)) := by simp [rd, h]
theorem rd_ext {D D' : Nat → UInt8} {x y n : Nat} (h : ∀ i, i < n → D (x + i) = D' (y + i)) : rd D x n = rd D' y n := by
  unfold rd
  apply List.map_congr_left
  intro i hi
  exact h i (List.mem_range.mp hi)
theorem rd_wr {x n : Nat} {b : List UInt8} (h : n ≤ b.length) : rd (wr D x b 0) x n = b.take n := by
  apply List.ext_getElem?
  intro i
  by_cases hi : i < n
  · rw [rd_get hi, List.getElem?_take_of_lt hi]
    unfold wr
    rw [if_pos (by omega), show x + i - x = i by omega]
    have hi2 : i < b.length := by omega
    simp [List.getD, hi2]
  · rw [List.getElem?_eq_none (by rw [u2k]; omega), List.getElem?_eq_none (by simp; omega)]
theorem u6v {x n : Nat} {b : List UInt8} (h : b.length = n) : rd (wr D x b 0) x n = b := by
  rw [rd_wr (by omega), List.take_of_length_le (by omega)]
theorem round {x y n : Nat} (h : ¬ (x < y + n ∧ y < x + n)) {u : UInt8} : rd (wr (fl (wr D y (rd D x n) 0) x n u 0) x (rd (fl (wr D y (rd D x n) 0) x n u 0) y n) 0) x n = rd D x n := by
  rw [u6v u2k]
  have : rd (fl (wr D y (rd D x n) 0) x n u 0) y n = rd (wr D y (rd D x n) 0) y n := by
    refine rd_ext fun i hi => ?_
    unfold fl
    rw [if_neg (by omega)]
  rw [this, u6v u2k]
end Go.Proofs.Ytjcffopjohkmaaa.Pi.Q
namespace Go.Proofs.Ytjcffopjohkmaaa.Pi
open Go.ChangeShapes Go.WideShapes
def imOf (w : World) (b o : Nat) : Option Value := w.cell? ⟨b, o, none⟩
theorem imOf_ok (w : World) : ∀ b o v, imOf w b o = some v → w.cell? ⟨b, o, none⟩ = some v := fun _ _ _ h => h
def u3g (zs : List Int) : List UInt8 := zs.map fun n => UInt8.ofNat n.toNat
theorem wf_u8 {n : Int} (h : (Lit.int .u8 n).wf = true) : 0 ≤ n ∧ n < 256 := by
  simp [Lit.wf, IntKind.min, IntKind.max, IntKind.bits, IntKind.signed] at h
  omega
theorem uiw {P : Program} {w : World} {base : Nat} {t e : TypeId} {a : Addr} {len cap : Nat} (ht : P.underlying t = some (.slice e)) (h : Value.okWide P w .any base t (.slice (some a) len cap)) : a.spot = none := by
  unfold Value.okWide at h
  simp only [ht] at h
  unfold Cell.okWide at h
  simp only [ht] at h
  unfold Cell.ok at h
  simp only [ht] at h
  exact h.2.2.2.1
theorem open_bytes {H : Type} {enc : TypeId × Value → H} {P : Program} {W : World} {base : Nat} {spare : Nat → Bool} {held : Bool} {t e : TypeId} {v : Value} {d : DataW H} {ps : List MemPlace} {ts : List TypeId} {ds : List (DataW H)} {j : Nat}
    (hsz : (DataW.weightsEach P ts ds).all (· ≤ reachBytes) = true) (htj : ts[j]? = some t) (hd : ds[j]? = some d) (hu : P.underlying t = some (.slice e)) (he : P.underlying e = some (.int .u8)) (hc : P.cellsOf e = 1) (hB : P.bytesOf e = 1)
    (hok : Value.okWide P W .any base t v) {b0 : Nat} (h : DataW.Trod enc P W b0 spare held t v d ps) :
    ∃ z b, b.length ≤ 140737488351232 ∧ Rep io0 (imOf W) (BS z b) v ∧ ∀ x ∈ ps, x.block < W.heap.size := by
  obtain ⟨a, len, cap, rfl⟩ := okWide_slice hu hok
  have k := h
  have lt : ∀ x ∈ ps, x.block < W.heap.size := by obtain ⟨m, hm⟩ := k; exact DataW.trod_lt m _ _ _ hm
  obtain ⟨fuel, hf⟩ := h
  rcases open_ints hu he hc hf with ⟨hcs, _⟩ | ⟨x, l, c, zs, hcs, _, hl, hm, hz, hx, hcell, hwz⟩
  · simp [Value.cells] at hcs
    obtain ⟨rfl, rfl, rfl⟩ := hcs
    exact ⟨true, [], by simp, .flat (.snil 1), lt⟩
  · simp [Value.cells] at hcs
    obtain ⟨rfl, rfl, rfl⟩ := hcs
    have hsp := uiw hu hok
    obtain ⟨g, o, sp⟩ := x
    obtain rfl : sp = none := hsp
    have hlz : len ≤ zs.length := by rw [hz]; split <;> omega
    refine ⟨false, u3g (zs.take len), ?_, ?_, lt⟩
    · obtain ⟨hx, _⟩ := Prod.mk.inj hx
      subst hx
      have z := sized_slice hsz htj hd hu
      rw [hB] at z
      have h1 : (lits (H := H) .u8 (zs.take len)).length + (lits (H := H) .u8 (zs.drop len)).length = zs.length := by
        simp [lits]
        omega
      rw [h1] at z
      simp only [u3g, List.length_map, List.length_take]
      have : reachBytes = 140737488351232 := rfl
      omega
    · have hln : (bytes (u3g (zs.take len))).length = len := by simp [bytes, u3g, hlz]
      have hget : ∀ (i : Nat) (x : PV), (bytes (u3g (zs.take len)))[i]? = some x → i < len ∧ x = .int .u8 (zs.getD i 0) := by
        intro i x hx
        have hi : i < len := by
          have := (List.getElem?_eq_some_iff.mp hx).1
          omega
        refine ⟨hi, ?_⟩
        have hiz : i < zs.length := by omega
        have e1 : (bytes (u3g (zs.take len)))[i]? = some (byt (UInt8.ofNat (zs[i]).toNat)) := by
          simp [bytes, u3g, hi, hiz]
        rw [e1] at hx
        obtain rfl := Option.some.inj hx
        have hw := wf_u8 (hwz _ (List.getElem_mem hiz))
        have e2 : zs.getD i 0 = zs[i] := by simp [List.getD, hiz]
        rw [e2]
        unfold byt
        congr 1
        have : (UInt8.ofNat (zs[i]).toNat).toNat = (zs[i]).toNat := by
          rw [UInt8.toNat_ofNat']
          omega
        rw [this]
        omega
      have hadd : ∀ i : Nat, i < len → W.cell? ⟨g, o + i, none⟩ = some (.int .u8 (zs.getD i 0)) := by
        intro i hi
        have := hcell i (by omega)
        unfold Addr.add at this
        split at this
        · rename_i h0
          subst h0
          simpa using this
        · exact this
      have hrep := RepF.slice (im := imOf W) (g := g) (o := o) (cap := cap) (sz := 1) (xs := bytes (u3g (zs.take len))) (fun i _ => .int .u8 (zs.getD i 0)) (.inl rfl) (by omega)
        (fun i x hx => by rw [(hget i x hx).2]; rfl)
        (fun i x j c hx hc => by
          obtain ⟨hi, rfl⟩ := hget i x hx
          have hj : j = 0 := by
            have := (List.getElem?_eq_some_iff.mp hc).1
            simp [PV.cells] at this
            omega
          subst hj
          unfold imOf
          simpa using hadd i hi)
        (fun i x j c hx hc => by
          obtain ⟨hi, rfl⟩ := hget i x hx
          have hj : j = 0 := by
            have := (List.getElem?_eq_some_iff.mp hc).1
            simp [PV.cells] at this
            omega
          subst hj
          simp [PV.cells] at hc
          subst hc
          exact .int _ _)
      rw [hln] at hrep
      exact .flat hrep
end Go.Proofs.Ytjcffopjohkmaaa.Pi
namespace Go.Proofs.Ytjcffopjohkmaaa.Pi
open Go.ChangeShapes Go.WideShapes
def litPV : Lit → PV
  | .int k n => .int k n
  | .bool b => .bool b
  | .string s => .str ⟨s.toArray⟩
  | _ => .undef
def wrapE (P : Program) (e : TypeId) (cs : List PV) : PV :=
  match tagg P e with
  | some _ => .agg cs
  | none => cs.headD .undef
mutual
def toldD {H : Type} (P : Program) : TypeId → DataW H → List PV
  | t, .lit l => [litPV l]
  | t, .nil => match P.underlying t with
    | some (.slice e) => [.slice false true 0 []]
    | _ => [.nil]
  | t, .slice elems _ => match P.underlying t with
    | some (.slice e) => [.slice false false (P.cellsOf e) (toldE P e elems)]
    | _ => []
  | t, .agg parts => match P.underlying t with
    | some (.struct fs) => toldF P fs.toList parts
    | _ => []
  | _, _ => []
def toldE {H : Type} (P : Program) (e : TypeId) : List (DataW H) → List PV
  | [] => []
  | d :: r => wrapE P e (toldD P e d) :: toldE P e r
def toldF {H : Type} (P : Program) : List Field → List (DataW H) → List PV
  | f :: fs, d :: r => toldD P f.type d ++ toldF P fs r
  | _, _ => []
end
def laidF (P : Program) : Nat → List Field → Option Nat
  | o, [] => some o
  | o, f :: r => bif f.offset == o then laidF P (o + P.cellsOf f.type) r else none
def plainT (P : Program) (T : List TypeId) (t : TypeId) : Bool :=
  match P.underlying t with
  | some .bool | some (.int _) | some .string => P.cellsOf t == 1 && (tagg P t).isNone
  | some (.slice e) => T.contains e && (decide (0 < P.cellsOf e) && (P.cellsOf t == 1 && (tagg P t).isNone))
  | some (.struct fs) => fs.toList.all (fun f => T.contains f.type) && (laidF P 0 fs.toList == some (P.cellsOf t) && (tagg P t).isSome)
  | _ => false
theorem ug9 {P : Program} {T : List TypeId} {e : TypeId} (he : plainT P T e = true) {cs : List PV} (hl : cs.length = P.cellsOf e) (hc : ∀ (j : Nat) (c : PV), cs[j]? = some c → isCell c = true) : (wrapE P e cs).cells = cs := by
  have one : P.cellsOf e = 1 → (tagg P e).isNone = true → (wrapE P e cs).cells = cs := fun h1 h2 => by
    obtain ⟨c, rfl⟩ : ∃ c, cs = [c] := by
      cases cs with
      | nil => simp at hl; omega
      | cons c r =>
        cases r with
        | nil => exact ⟨c, rfl⟩
        | cons d r => simp at hl; omega
    have hcell := hc 0 c rfl
    unfold wrapE
    cases ht : tagg P e with
    | some _ => rw [ht] at h2; cases h2
    | none =>
      simp only [List.headD_cons]
      cases c <;> first | rfl | cases hcell
  unfold plainT at he
  split at he
  · simp only [Bool.and_eq_true, beq_iff_eq] at he; exact one he.1 he.2
  · simp only [Bool.and_eq_true, beq_iff_eq] at he; exact one he.1 he.2
  · simp only [Bool.and_eq_true, beq_iff_eq] at he; exact one he.1 he.2
  · simp only [Bool.and_eq_true, beq_iff_eq] at he; exact one he.2.2.1 he.2.2.2
  · simp only [Bool.and_eq_true, beq_iff_eq] at he
    unfold wrapE
    cases ht : tagg P e with
    | some _ => rfl
    | none => rw [ht] at he; cases he.2.2
  · cases he
def ToldOk (W : World) (cs : List Value) (ps : List PV) : Prop :=
  ps.length = cs.length ∧ ∀ (j : Nat) (c : PV), ps[j]? = some c → isCell c = true ∧ ∀ v, cs[j]? = some v → RepF (imOf W) c v
theorem ToldOk.one {W : World} {c : PV} {v : Value} (h1 : isCell c = true) (h2 : RepF (imOf W) c v) : ToldOk W [v] [c] :=
  ⟨rfl, fun j d hd => by
    cases j with
    | zero => simp at hd; subst hd; exact ⟨h1, fun u hu => by simp at hu; subst hu; exact h2⟩
    | succ j => simp at hd⟩
variable {H : Type} {enc : TypeId × Value → H} {P : Program} {W : World} {base : Nat} {spare : Nat → Bool} {held : Bool} {T : List TypeId}
theorem u92 {W : World} {a : Addr} {n : Nat} {l : List Value} (hn : 0 < n) (h : W.cells? base a n = some l) : a.spot = none := by
  unfold World.cells? at h
  split at h
  · have h0 := mapM_some_get h 0 0 (by simp [hn])
    have : a.add 0 = a := by simp [Addr.add]
    rw [this] at h0
    unfold World.cell? at h0
    cases hs : a.spot with
    | none => rfl
    | some x =>
      rw [hs] at h0
      have hl := mapM_some_length h
      have hlt : 0 < l.length := by rw [hl]; simpa using hn
      rw [List.getElem?_eq_getElem hlt] at h0
      split at h0 <;> simp at h0
  · cases h
theorem uhx {W : World} {a : Addr} {n : Nat} {l : List Value} (h : W.cells? base a n = some l) (hs : a.spot = none) : l.length = n ∧ ∀ (j : Nat) (v : Value), l[j]? = some v → W.cell? ⟨a.block, a.off + j, none⟩ = some v := by
  unfold World.cells? at h
  split at h
  · refine ⟨by simpa using mapM_some_length h, fun j v hv => ?_⟩
    have hj : j < n := by
      have := (List.getElem?_eq_some_iff.mp hv).1
      have h2 := mapM_some_length h
      simp at h2
      omega
    have h0 := mapM_some_get h j j (by simp [hj])
    rw [hv] at h0
    have : a.add j = ⟨a.block, a.off + j, none⟩ := by
      obtain ⟨b, o, sp⟩ := a
      simp only at hs
      subst hs
      unfold Addr.add
      split <;> simp_all
    rw [this] at h0
    exact h0
  · cases h
theorem uch {P : Program} {e : TypeId} : ∀ (l : List (DataW H)) (i : Nat), (toldE P e l)[i]? = l[i]?.map fun d => wrapE P e (toldD P e d)
  | [], i => by simp [toldE]
  | d :: r, 0 => by simp [toldE]
  | d :: r, i + 1 => by simpa [toldE] using uch r i
theorem u5e {P : Program} {e : TypeId} : ∀ (l : List (DataW H)), (toldE P e l).length = l.length
  | [] => rfl
  | d :: r => by simp [toldE, u5e r]
theorem ToldOk.append {W : World} {cs ds : List Value} {ps qs : List PV} (h : ToldOk W cs ps) (k : ToldOk W ds qs) : ToldOk W (cs ++ ds) (ps ++ qs) := by
  refine ⟨by simp [h.1, k.1], fun j c hc => ?_⟩
  by_cases hj : j < ps.length
  · rw [List.getElem?_append_left hj] at hc
    obtain ⟨h1, h2⟩ := h.2 j c hc
    refine ⟨h1, fun v hv => h2 v ?_⟩
    rwa [List.getElem?_append_left (by rw [← h.1]; exact hj)] at hv
  · rw [List.getElem?_append_right (by omega)] at hc
    obtain ⟨h1, h2⟩ := k.2 _ c hc
    refine ⟨h1, fun v hv => h2 v ?_⟩
    rwa [List.getElem?_append_right (by rw [← h.1]; omega), ← h.1] at hv
theorem u6p (n : Nat) (ok : ∀ (t : TypeId) (cs : List Value) (x : DataW H × List MemPlace), T.contains t = true → DataW.trod enc P W base spare held n t cs = some x → cs.length = P.cellsOf t ∧ ToldOk W cs (toldD P t x.1)) (cs : List Value) :
    ∀ (fs : List Field) (o : Nat) (xs : List (DataW H × List MemPlace)), (∀ f ∈ fs, T.contains f.type = true) → laidF P o fs = some cs.length → xs.length = fs.length →
      (∀ (i : Nat) (f : Field), fs[i]? = some f → DataW.trod enc P W base spare held n f.type ((cs.drop f.offset).take (P.cellsOf f.type)) = xs[i]?) → o ≤ cs.length ∧ ToldOk W (cs.drop o) (toldF P fs (xs.map (·.1)))
  | [], o, xs, hT, hl, hx, h => by
    simp only [laidF, Option.some.injEq] at hl
    subst hl
    obtain rfl : xs = [] := List.eq_nil_of_length_eq_zero (by simpa using hx)
    exact ⟨Nat.le_refl _, by simp [toldF], by simp [toldF]⟩
  | f :: fs, o, xs, hT, hl, hx, h => by
    unfold laidF at hl
    cases ho : (f.offset == o) with
    | false => rw [ho] at hl; cases hl
    | true =>
      rw [ho] at hl
      simp only [cond_true] at hl
      obtain rfl : f.offset = o := by simpa using ho
      cases xs with
      | nil => simp at hx
      | cons y ys =>
        have h0 := h 0 f rfl
        simp only [List.getElem?_cons_zero] at h0
        obtain ⟨l1, l2⟩ := ok f.type _ y (hT f (by simp)) h0
        obtain ⟨k1, k2⟩ := u6p n ok cs fs _ ys (fun g hg => hT g (by simp [hg])) hl (by simpa using hx) (fun i g hg => by
          have := h (i + 1) g (by simpa using hg)
          simpa using this)
        refine ⟨by omega, ?_⟩
        have e1 : cs.drop f.offset = (cs.drop f.offset).take (P.cellsOf f.type) ++ cs.drop (f.offset + P.cellsOf f.type) := by
          rw [← List.drop_drop, List.take_append_drop]
        rw [e1]
        simp only [List.map_cons, toldF]
        exact l2.append k2
theorem told_ok (hT : T.all (plainT P T) = true) (hsp : ∀ b, spare b = true) : ∀ (n : Nat) (t : TypeId) (cs : List Value) (x : DataW H × List MemPlace), T.contains t = true → DataW.trod enc P W base spare held n t cs = some x → cs.length = P.cellsOf t ∧ ToldOk W cs (toldD P t x.1) := by
  intro n
  induction n with
  | zero => intro t cs x _ h; simp [DataW.trod] at h
  | succ n ih =>
  intro t cs x ht h
  have hp : plainT P T t = true := List.all_eq_true.mp hT t (by simpa using ht)
  have hp0 := hp
  unfold plainT at hp
  split at hp
  · rename_i hu
    simp only [Bool.and_eq_true, beq_iff_eq] at hp
    obtain ⟨b, rfl, rfl⟩ := DataW.trod_bool hu h
    refine ⟨by simp [hp.1], ?_⟩
    simp only [toldD, litPV]
    exact .one rfl (.bool b)
  · rename_i k hu
    simp only [Bool.and_eq_true, beq_iff_eq] at hp
    obtain ⟨m, rfl, rfl, _⟩ := DataW.trod_int hu h
    refine ⟨by simp [hp.1], ?_⟩
    simp only [toldD, litPV]
    exact .one rfl (.int k m)
  · rename_i hu
    simp only [Bool.and_eq_true, beq_iff_eq] at hp
    obtain ⟨s, rfl, rfl, _⟩ := DataW.trod_string hu h
    refine ⟨by simp [hp.1], ?_⟩
    simp only [toldD, litPV]
    have e : (⟨s.data.toList.toArray⟩ : ByteArray) = s := by rw [Array.toArray_toList]
    rw [e]
    exact .one rfl (.str s)
  · rename_i e hu
    simp only [Bool.and_eq_true, beq_iff_eq, decide_eq_true_eq] at hp
    obtain ⟨he, hz, h1, _⟩ := hp
    have hpe : plainT P T e = true := List.all_eq_true.mp hT e (by simpa using he)
    rcases DataW.trod_slice hu h with ⟨rfl, rfl⟩ | ⟨a, len, cap, elems, rest, m, hm, rfl, rfl, hb, hlc, hcm, hlen, hel, hre, hno⟩
    · refine ⟨by simp [h1], ?_⟩
      simp only [toldD, hu]
      exact .one rfl (.snil 0)
    · obtain rfl : m = n := by omega
      refine ⟨by simp [h1], ?_⟩
      simp only [toldD, hu]
      have each : ∀ (i : Nat) (y : DataW H × List MemPlace), elems[i]? = some y → ∃ l : List Value, W.cells? base (a.add (i * P.cellsOf e)) (P.cellsOf e) = some l ∧ l.length = P.cellsOf e ∧ ToldOk W l (toldD P e y.1) := by
        intro i y hy
        have hi : i < len := by
          have := (List.getElem?_eq_some_iff.mp hy).1
          omega
        have := hel i hi
        rw [hy, Option.bind_eq_some_iff] at this
        obtain ⟨l, hl, hd⟩ := this
        obtain ⟨q1, q2⟩ := ih e l y he hd
        exact ⟨l, hl, q1, q2⟩
      have spot : a.spot = none ∨ cap = 0 := by
        by_cases hc : cap = 0
        · exact .inr hc
        · left
          have add0 : a.add (0 * P.cellsOf e) = a := by simp [Addr.add]
          by_cases hl0 : len = 0
          · obtain ⟨r1, r2⟩ := hre (hsp _)
            have := r2 0 (by omega)
            have hlt : 0 < rest.length := by omega
            rw [List.getElem?_eq_getElem hlt, Option.bind_eq_some_iff] at this
            obtain ⟨l, hl, _⟩ := this
            rw [hl0] at hl
            rw [show (0 + 0) * P.cellsOf e = 0 * P.cellsOf e by simp, add0] at hl
            exact u92 hz hl
          · have hlt : 0 < elems.length := by omega
            obtain ⟨l, hl, _⟩ := each 0 _ (List.getElem?_eq_getElem hlt)
            rw [add0] at hl
            exact u92 hz hl
      obtain ⟨g, o, sp⟩ := a
      have hcap : cap = 0 → elems = [] := fun h => List.eq_nil_of_length_eq_zero (by omega)
      have hL : (toldE P e (elems.map (·.1))).length = len := by rw [u5e, List.length_map, hlen]
      have hget : ∀ (i : Nat) (x : PV), (toldE P e (elems.map (·.1)))[i]? = some x → sp = none ∧ ∃ l : List Value, (∀ (j : Nat) (v : Value), l[j]? = some v → imOf W g (o + i * P.cellsOf e + j) = some v) ∧ l.length = P.cellsOf e ∧ x.cells.length = P.cellsOf e ∧ ∀ (j : Nat) (c : PV), x.cells[j]? = some c → ∀ v, l[j]? = some v → RepF (imOf W) c v := by
        intro i x hx
        rw [uch, List.getElem?_map] at hx
        cases hy : elems[i]? with
        | none => rw [hy] at hx; simp at hx
        | some y =>
          rw [hy] at hx
          simp only [Option.map_some, Option.some.injEq] at hx
          have hsn : sp = none := by
            rcases spot with h | h
            · exact h
            · rw [hcap h] at hy; simp at hy
          subst hsn
          obtain ⟨l, hl, q1, q2⟩ := each i y hy
          have hadd : (⟨g, o, none⟩ : Addr).add (i * P.cellsOf e) = ⟨g, o + i * P.cellsOf e, none⟩ := by unfold Addr.add; split <;> simp_all
          rw [hadd] at hl
          obtain ⟨_, q3⟩ := uhx hl rfl
          have hw := ug9 hpe (cs := toldD P e y.1) (by rw [q2.1, q1]) (fun j c hc => (q2.2 j c hc).1)
          rw [hx] at hw
          refine ⟨rfl, l, fun j v hv => q3 j v hv, q1, by rw [hw, q2.1, q1], fun j c hc v hv => ?_⟩
          rw [hw] at hc
          exact (q2.2 j c hc).2 v hv
      have hrep := RepF.slice (im := imOf W) (g := g) (o := o) (cap := cap) (sz := P.cellsOf e) (sp := sp) (xs := toldE P e (elems.map (·.1))) (fun i j => (imOf W g (o + i * P.cellsOf e + j)).getD .nilIface) spot (by omega)
        (fun i x hx => (hget i x hx).2.choose_spec.2.2.1)
        (fun i x j c hx hc => by
          obtain ⟨_, l, l1, l2, l3, l4⟩ := hget i x hx
          have hj : j < l.length := by
            have := (List.getElem?_eq_some_iff.mp hc).1
            omega
          rw [l1 j _ (List.getElem?_eq_getElem hj)]
          rfl)
        (fun i x j c hx hc => by
          obtain ⟨_, l, l1, l2, l3, l4⟩ := hget i x hx
          have hj : j < l.length := by
            have := (List.getElem?_eq_some_iff.mp hc).1
            omega
          rw [l1 j _ (List.getElem?_eq_getElem hj)]
          exact l4 j c hc _ (List.getElem?_eq_getElem hj))
      rw [hL] at hrep
      exact .one rfl hrep
  · rename_i fs hu
    simp only [Bool.and_eq_true, beq_iff_eq, List.all_eq_true] at hp
    obtain ⟨hTf, hlaid, _⟩ := hp
    obtain ⟨xs, m, hm, rfl, hcl, hxl, hx⟩ := DataW.trod_struct hu h
    obtain rfl : m = n := by omega
    refine ⟨hcl, ?_⟩
    simp only [toldD, hu]
    have := u6p (T := T) m (fun t cs x ht hk => ih t cs x ht hk) cs fs.toList 0 xs (fun f hf => hTf f hf) (by rw [hcl]; exact hlaid) (by simpa using hxl) (fun i f hf => hx i f (by simpa using hf))
    simpa using this.2
  · cases hp
end Go.Proofs.Ytjcffopjohkmaaa.Pi
namespace Go.Proofs.Ytjcffopjohkmaaa.Pi.Q
open Go Go.Proofs.Ytjcffopjohkmaaa.Pi
attribute [local congr] ite_congr
structure VT where
  num : Int
  nul : Bool
  heap : Int
  deriving DecidableEq
theorem ns (p : Nat) : ((p + 1 : Nat) : Int) = (p : Int) + 1 := rfl
end Go.Proofs.Ytjcffopjohkmaaa.Pi.Q
namespace Go.Proofs.Ytjcffopjohkmaaa.Pi.Q
open Go Go.Proofs.Ytjcffopjohkmaaa.Pi
attribute [local congr] ite_congr
structure BK where
  ty : Int
  res : VT
  deriving DecidableEq
end Go.Proofs.Ytjcffopjohkmaaa.Pi.Q
namespace Go.Proofs.Ytjcffopjohkmaaa.Pi.Q
open Go Go.Proofs.Ytjcffopjohkmaaa.Pi
attribute [local congr] ite_congr
structure FT where
  ty : VT
  mu : Bool
  deriving DecidableEq
end Go.Proofs.Ytjcffopjohkmaaa.Pi.Q
namespace Go.Proofs.Ytjcffopjohkmaaa.Pi.Q
open Go Go.Proofs.Ytjcffopjohkmaaa.Pi
attribute [local congr] ite_congr
structure CT where
  kind : Int
  ps : List VT
  rs : List VT
  fs : List FT
  deriving DecidableEq
structure ST where
  fin : Bool
  sup : List Int
  comp : CT
  deriving DecidableEq
end Go.Proofs.Ytjcffopjohkmaaa.Pi.Q
namespace Go.Proofs.Ytjcffopjohkmaaa.Pi
structure GL (α : Type) where
  z : Bool
  l : List α
  deriving DecidableEq
section
variable {z : Bool} {sz : Nat} {l : List PV} {H : Heap}
end
end Go.Proofs.Ytjcffopjohkmaaa.Pi
namespace Go.Proofs.Ytjcffopjohkmaaa.Pi
open Go.ChangeShapes Go.WideShapes
mutual
def bulk {H : Type} : DataW H → Nat
  | .lit (.string bytes) => bytes.length + 1
  | .lit _ => 1
  | .nil => 1
  | .ptr d => bulk d + 1
  | .slice elems spare => bulkL elems + bulkL spare + 1
  | .agg parts => bulkL parts + 1
  | _ => 1
def bulkL {H : Type} : List (DataW H) → Nat
  | [] => 0
  | d :: r => bulk d + bulkL r
end
section
variable {H : Type} {enc : TypeId × Value → H} {P : Program} {W : World} {base : Nat} {spare : Nat → Bool} {held : Bool} {A B : Type} {n : Nat} {t e : TypeId}
structure DecArgs (H : Type) where
  enc : TypeId × Value → H
  P : Program
  W : World
  base : Nat
  spare : Nat → Bool
  held : Bool
variable (G : DecArgs H)
def Dec (n : Nat) (t : TypeId) (cells : A → List PV) (ok : A → Prop) (ms : A → Nat) : Prop :=
  ∀ cs x, DataW.trod G.enc G.P G.W G.base G.spare G.held n t cs = some x → ∃ a, toldD G.P t x.1 = cells a ∧ ok a ∧ ms a ≤ bulk x.1
def DecF (n : Nat) (fs : List Field) (cells : A → List PV) (ok : A → Prop) (ms : A → Nat) : Prop :=
  ∀ (xs : List (DataW H × List MemPlace)), xs.length = fs.length → (∀ (i : Nat) (f : Field), fs[i]? = some f → ∃ cs, DataW.trod G.enc G.P G.W G.base G.spare G.held n f.type cs = xs[i]?) →
    ∃ a, toldF G.P fs (xs.map (·.1)) = cells a ∧ ok a ∧ ms a ≤ bulkL (xs.map (·.1))
variable {G}
theorem dec_int {k : IntKind} (hu : G.P.underlying t = some (.int k)) : Dec G n t (fun m : Int => [.int k m]) (fun m => (Lit.int k m).wf = true) (fun _ => 1) := by
  intro cs x h
  obtain ⟨m, rfl, rfl, hw⟩ := DataW.trod_int hu h
  exact ⟨m, by simp [toldD, litPV], hw, by simp [bulk]⟩
theorem dec_bool (hu : G.P.underlying t = some .bool) : Dec G n t (fun b : Bool => [.bool b]) (fun _ => True) (fun _ => 1) := by
  intro cs x h
  obtain ⟨b, rfl, rfl⟩ := DataW.trod_bool hu h
  exact ⟨b, by simp [toldD, litPV], trivial, by simp [bulk]⟩
theorem decF_nil : DecF G n [] (fun _ : Unit => []) (fun _ => True) (fun _ => 0) := by
  intro xs hl _
  exact ⟨(), by simp [toldF], trivial, Nat.zero_le _⟩
theorem decF_cons {f : Field} {fs : List Field} {cA : A → List PV} {okA : A → Prop} {mA : A → Nat} {cB : B → List PV} {okB : B → Prop} {mB : B → Nat} (ha : Dec G n f.type cA okA mA) (hb : DecF G n fs cB okB mB) :
    DecF G n (f :: fs) (fun p : A × B => cA p.1 ++ cB p.2) (fun p => okA p.1 ∧ okB p.2) (fun p => mA p.1 + mB p.2) := by
  intro xs hl h
  cases xs with
  | nil => simp at hl
  | cons y ys =>
    obtain ⟨cs, h0⟩ := h 0 f rfl
    simp only [List.getElem?_cons_zero] at h0
    obtain ⟨a, a1, a2, a3⟩ := ha _ _ h0
    obtain ⟨b, b1, b2, b3⟩ := hb ys (by simpa using hl) (fun i g hg => by simpa using h (i + 1) g (by simpa using hg))
    exact ⟨(a, b), by simp only [List.map_cons, toldF, a1, b1], ⟨a2, b2⟩, by simp only [List.map_cons, bulkL]; omega⟩
theorem dec_struct {fs : Array Field} {l : List Field} (hu : G.P.underlying t = some (.struct fs)) (hl : fs.toList = l) {cells : A → List PV} {ok : A → Prop} {ms : A → Nat} (h : ∀ m, n = m + 1 → DecF G m l cells ok ms) : Dec G n t cells ok (fun a => ms a + 1) := by
  intro cs x hx
  obtain ⟨xs, m, hm, rfl, hcl, hxl, hxi⟩ := DataW.trod_struct hu hx
  subst hl
  obtain ⟨a, a1, a2, a3⟩ := h m hm xs (by simpa using hxl) (fun i f hf => ⟨_, hxi i f (by simpa using hf)⟩)
  exact ⟨a, by simp only [toldD, hu, a1], a2, by simp only [bulk]; omega⟩
theorem Dec.map {cells : A → List PV} {ok : A → Prop} {ms : A → Nat} (h : Dec G n t cells ok ms) (f : A → B) {cB : B → List PV} {okB : B → Prop} {mB : B → Nat} (hc : ∀ a, cells a = cB (f a)) (ho : ∀ a, ok a → okB (f a)) (hm : ∀ a, mB (f a) ≤ ms a) : Dec G n t cB okB mB := by
  intro cs x hx
  obtain ⟨a, a1, a2, a3⟩ := h cs x hx
  exact ⟨f a, by rw [a1, hc], ho a a2, Nat.le_trans (hm a) a3⟩
end
end Go.Proofs.Ytjcffopjohkmaaa.Pi
namespace Go.Proofs.Ytjcffopjohkmaaa.Pi
open Go.ChangeShapes Go.WideShapes
theorem rep_agg {P : Program} {W : World} {base : Nat} {t : TypeId} {fs : Array Field} {v : Value} {ps : List PV} (hu : P.underlying t = some (.struct fs)) (hok : Value.okWide P W .any base t v) (ht : ToldOk W v.cells.toList ps) : Rep io0 (imOf W) (.agg ps) v := by
  unfold Value.okWide at hok
  rw [hu] at hok
  obtain ⟨cs, rfl, _, _⟩ := hok
  obtain ⟨h1, h2⟩ := ht
  refine .agg (by simpa [Value.cells] using h1.symm) (fun j c hj => (h2 j c hj).1) fun j c v hc hv => .flat ((h2 j c hc).2 v (by simpa [Value.cells] using hv))
theorem args_nil {im : Nat → Nat → Option Value} : ArgsOk (gOf im) [] #[] := ⟨rfl, fun j p v hp => by simp at hp⟩
theorem args_cons {im : Nat → Nat → Option Value} {p : PV} {v : Value} {ps : List PV} {vs : List Value} (h : Rep io0 im p v) (hs : strip p = p) (hr : ArgsOk (gOf im) ps vs.toArray) : ArgsOk (gOf im) (p :: ps) (v :: vs).toArray := by
  refine ⟨by have := hr.size; simp at this ⊢; exact this, fun j q u hq hu => ?_⟩
  cases j with
  | zero =>
    simp at hq hu
    subst hq; subst hu
    exact ⟨.one (.pure h), hs⟩
  | succ j =>
    exact hr.rep j q u (by simpa using hq) (by simpa using hu)
end Go.Proofs.Ytjcffopjohkmaaa.Pi
namespace Go.Proofs.Ytjcffopjohkmaaa.Pi.Q
open Go Go.Proofs.Ytjcffopjohkmaaa.Pi
structure LT where
  wide : Bool
  min : Int
  max : Int
  has : Bool
  deriving DecidableEq
def cs_LT (v : LT) : List PV := [.bool v.wide, .int .u64 v.min, .int .u64 v.max, .bool v.has]
def ok_LT (v : LT) : Prop := True ∧ (Lit.int .u64 v.min).wf = true ∧ (Lit.int .u64 v.max).wf = true ∧ True ∧ True
def ms_LT (v : LT) : Nat := 1 + (1 + (1 + (1 + (0)))) + 1
end Go.Proofs.Ytjcffopjohkmaaa.Pi.Q
namespace Go.Proofs.Ytjcffopjohkmaaa.Pi.Q
open Go Go.Proofs.Ytjcffopjohkmaaa.Pi
attribute [local congr] ite_congr
theorem MemOk.zero_from {K : Heap} {c : Nat} {l0 hx : Bool} {mn mx : Int} {pgs : List Nat} {D : Nat → UInt8} (h : MemOk K c l0 mn mx hx pgs D) {n i : Nat} {x : UInt8} (hx : (rd D (65536 * pgs.length) n)[i]? = some x) : x = 0 := by
  have hi := (List.getElem?_eq_some_iff.mp hx).1
  rw [u2k] at hi
  rw [rd_get hi, h.z _ (by omega)] at hx
  exact (Option.some.inj hx).symm
theorem u8p {b : List UInt8} {o z : Bool} {v6 : PV} {s0 s1 : Nat} (hz : ∀ (i : Nat) x, b[i]? = some x → x = 0) (h0 : s0 ≤ s1) (hs : s1 ≤ 140737488351232) (hb : b.length = s1 - s0) : ∀ (m j : Nat) (K : Heap), j + m = b.length →
    run (u05 v6 (.int .u64 s0) (.int .u64 s1) (.slice o z 1 (bytes b)) (.int .i64 0) (.int .i64 j)) K = some (.ok (.bool true) K)
  | 0, j, K, h => by
    have hj : j = b.length := by omega
    subst hj
    have hlen : (bytes b).length = b.length := by simp
    have aw : ∀ H, run (C u0c []) H = some (.ok (.bool true) H) := fun H => u9m
    have e1 : (b.length : Int) = (s1 : Int) - s0 := by omega
    have w1 : IntKind.u64.wrap ((s1 : Int) - s0) = (s1 : Int) - s0 := w_u64 (by omega)
    rw [u0j]
    simp +contextual -dsimp (disch := omega) only [↓goDown, goUp, cr, simprocAttr, hlen, irr, e1, w1, aw]
  | m + 1, j, K, h => by
    have hj : j < b.length := by omega
    have hlen : (bytes b).length = b.length := by simp
    have ih := u8p (o := o) (z := z) (v6 := v6) hz h0 hs hb m (j + 1) K (by omega)
    rw [← ih, u0j]
    have hx : b[j] = 0 := hz j _ (List.getElem?_eq_getElem hj)
    have c1 : ((j : Int) < b.length) = True := eq_true (by omega)
    have hia : run (iaS 1 (.slice false z 1 (bytes b)) (.int .i64 j)) K = some (.ok (.elem [.int .u8 0]) K) := by rw [ia_byt hj, hx]; rfl
    simp +contextual -dsimp (disch := omega) only [↓goDown, goUp, cr, simprocAttr, hlen, c1, hia, nsM]
theorem uai {K : Heap} {c : Nat} {l0 hx : Bool} {mn mx : Nat} {pgs : List Nat} {z : Bool} {b : List UInt8} {m at_ : Nat} (hm : MemOk K c l0 mn mx hx pgs (fun _ => 0)) (hp : pgs.length ≤ 4) (hmx : mx ≤ 18446744073709551615) (hmm : m ≤ 18446744073709551615) (hb : b.length ≤ 140737488351232)
    (hat : at_ + b.length = 65536 * pgs.length ∨ (at_ = 0 ∧ 65536 * pgs.length ≤ b.length)) :
    ∃ K', run (u08 (.int .u64 m) (.slice false z 1 (bytes b)) (.bool false) (.ptr c 0) (.int .u64 (65536 * pgs.length : Nat)) (.int .u64 at_)) K = some (.ok (.bool true) K') := by
  have hlen : (bytes b).length = b.length := by simp
  have aw : ∀ H, run (C u0c []) H = some (.ok (.bool true) H) := fun H => u9m
  have hw := uk2 (z := z) (b := b) (at_ := at_) hm (by omega) hb (by omega)
  have e1 : ((pgs.length : Int) * 65536 = (65536 * pgs.length : Nat)) = True := eq_true (by omega)
  have e3 : ((65536 * pgs.length : Nat) : Int) + (m : Int) * 65536 - (65536 * pgs.length : Nat) = (65536 * m : Nat) := by omega
  have e4 : ((65536 * pgs.length + m * 65536 : Nat) : Int) = ((65536 * pgs.length : Nat) : Int) + (m : Int) * 65536 := by omega
  have step : ∃ (D : Nat → UInt8) (K2 : Heap) (e : Int), run (C u0k [.ptr c 0, .int .u64 at_, .slice false z 1 (bytes b)]) K = some (.ok (.int .i64 e) K2) ∧ MemOk K2 c l0 mn mx hx pgs D ∧
      ((e = 0 ∧ at_ + b.length ≤ 65536 * pgs.length ∧ rd D at_ b.length = b) ∨ e = 210) := by
    by_cases hfit : at_ + b.length ≤ 65536 * pgs.length
    · rw [if_pos hfit] at hw
      obtain ⟨K2, hw, hm2, hs2⟩ := hw
      exact ⟨_, K2, 0, hw, hm2, Or.inl ⟨rfl, hfit, u6v rfl⟩⟩
    · rw [if_neg hfit] at hw
      exact ⟨_, K, 210, hw, hm, Or.inr rfl⟩
  obtain ⟨D, K2, e, hw, hm2, he⟩ := step
  have hsz := u4w hm2 (by omega)
  rcases ulr (n := m) (cap := 4) hm2 (by omega) (by omega) hmx hmm with hg | ⟨K3, qs, hg, hm3, hq, h64, _, _⟩
  · have hg : run (C u0q [.ptr c 0, .int .u64 m, .int .u64 4]) K2 = some (.ok (.tup [.int .u64 0, .bool false]) K2) := hg
    refine ⟨K2, ?_⟩
    rw [u0x]
    rcases he with ⟨rfl, _⟩ | rfl <;>
    simp +contextual -dsimp (disch := omega) only [↓goDown, goUp, cr, simprocAttr, hw, hg, hsz, aw, u3a, Bool.not_false, e1]
  · have hg : run (C u0q [.ptr c 0, .int .u64 m, .int .u64 4]) K2 = some (.ok (.tup [.int .u64 pgs.length, .bool true]) K3) := hg
    have hl3 : (pgs ++ qs).length = pgs.length + m := by rw [List.length_append, hq]
    have hsz3 := u4w hm3 (by omega)
    have e2 : IntKind.u64.wrap (((pgs ++ qs).length : Int) * 65536) = ((65536 * pgs.length : Nat) : Int) + (m : Int) * 65536 := by
      rw [hl3, w_u64 (by omega)]
      omega
    have hrb := uhg hm3 (by omega) (at_ := 65536 * pgs.length) (n := 65536 * m) (by omega) (by omega)
    rw [if_pos (by omega)] at hrb
    have hz0 : ∀ (i : Nat) x, (rd D (65536 * pgs.length) (65536 * m))[i]? = some x → x = 0 := fun i x h => hm2.zero_from h
    have hzl := fun K => u8p (v6 := .bool false) (o := true) (z := false) hz0 (s0 := 65536 * pgs.length) (s1 := 65536 * pgs.length + m * 65536) (by omega) (by omega) (by rw [u2k]; omega) _ 0 K (Nat.zero_add _)
    rw [e4] at hzl
    have hzl : ∀ K, run (u05 (.bool false) (.int .u64 (65536 * pgs.length : Nat)) (.int .u64 (((65536 * pgs.length : Nat) : Int) + (m : Int) * 65536)) (.slice true false 1 (bytes (rd D (65536 * pgs.length) (65536 * m)))) (.int .i64 0) (.int .i64 0)) K = some (.ok (.bool true) K) := hzl
    refine ⟨K3, ?_⟩
    rw [u0x]
    have hra := uhg hm3 (by omega) (at_ := at_) (n := b.length) (by omega) (by omega)
    rcases he with ⟨rfl, hfit, hr0⟩ | rfl
    · rw [if_pos (by omega), hr0] at hra
      have hne : ∀ K, run (bi .neq .none (.str ⟨b.toArray⟩) (.str ⟨b.toArray⟩)) K = some (.ok (.bool false) K) := fun K => ulm rfl
      simp +contextual -dsimp (disch := omega) only [↓goDown, goUp, cr, simprocAttr, hw, hg, hsz3, aw, u3a, Bool.not_true, e1, e2, e3, hra, hrb, hlen, ulh, hne, hzl, eq_self]
    · split at hra <;>
      simp +contextual -dsimp (disch := omega) only [↓goDown, goUp, cr, simprocAttr, hw, hg, hsz3, aw, u3a, Bool.not_true, e1, e2, e3, hra, hrb, hlen, hzl, eq_self]
theorem u64_of {n : Int} (h : (Lit.int .u64 n).wf = true) : ∃ m : Nat, n = m ∧ m ≤ 18446744073709551615 := by
  simp [Lit.wf, IntKind.min, IntKind.max, IntKind.bits, IntKind.signed] at h
  exact ⟨n.toNat, by omega, by omega⟩
theorem ugw {H : Heap} {l0 hx : Bool} {mn mx m : Nat} {z : Bool} {b : List UInt8} (hmn : mn ≤ 18446744073709551615) (hmx : mx ≤ 18446744073709551615) (hmm : m ≤ 18446744073709551615) (hb : b.length ≤ 140737488351232) :
    ∃ K, run (C u0i [.agg [.bool l0, .int .u64 mn, .int .u64 mx, .bool hx], .int .u64 m, .slice false z 1 (bytes b)]) H = some (.ok (.bool true) K) := by
  have hlen : (bytes b).length = b.length := by simp
  have aw : ∀ H, run (C u0c []) H = some (.ok (.bool true) H) := fun H => u9m
  obtain ⟨H1, hH1⟩ : ∃ H1, H1 = hadd H [.cells [.bool l0, .int .u64 mn, .int .u64 mx, .bool hx]] := ⟨_, rfl⟩
  have hbx : run (bx 4 (.agg [.bool l0, .int .u64 mn, .int .u64 mx, .bool hx])) H = some (.ok (.ptr H.length 0) H1) := by
    simp +contextual -dsimp (disch := omega) only [↓goDown, goUp, cr, simprocAttr, hH1]
  have hld : run (ld (some 4) false (.ptr H.length 0)) H1 = some (.ok (.agg [.bool l0, .int .u64 mn, .int .u64 mx, .bool hx]) H1) := by
    simp +contextual -dsimp (disch := omega) only [↓goDown, goUp, cr, simprocAttr, hH1]
  rcases new_is (H := H1) (l0 := l0) (hx := hx) (mn := mn) (mx := mx) (cap := 4) (by decide) hmn hmx with hn | hn | ⟨c, K, pgs, hn, hm, hp, _, _, _, h4⟩
  · have hn : run (C u0u [.agg [.bool l0, .int .u64 mn, .int .u64 mx, .bool hx], .int .u64 4]) H1 = some (.ok (.tup [.nil, .int .i64 211]) H1) := hn
    obtain ⟨K', hK'⟩ := u2t (H := H) (v := .bool true) (K := H1)
    refine ⟨K', ?_⟩
    rw [← hK', u0m]
    simp +contextual -dsimp (disch := omega) only [↓goDown, goUp, cr, simprocAttr, u0r, hbx, hld, hn, ui5, aw]
  · have hn : run (C u0u [.agg [.bool l0, .int .u64 mn, .int .u64 mx, .bool hx], .int .u64 4]) H1 = some (.ok (.tup [.nil, .int .i64 1]) H1) := hn
    obtain ⟨K', hK'⟩ := u2t (H := H) (v := .bool true) (K := H1)
    refine ⟨K', ?_⟩
    rw [← hK', u0m]
    simp +contextual -dsimp (disch := omega) only [↓goDown, goUp, cr, simprocAttr, u0r, hbx, hld, hn, ui5, aw]
  · have hn : run (C u0u [.agg [.bool l0, .int .u64 mn, .int .u64 mx, .bool hx], .int .u64 4]) H1 = some (.ok (.tup [.ptr c 0, .int .i64 0]) K) := hn
    have hsz := u4w hm (by omega)
    have e1 : (pgs.length : Int) * 65536 = (65536 * pgs.length : Nat) := by omega
    by_cases d : b.length < 65536 * pgs.length
    · have c1 : ((b.length : Int) < (65536 * pgs.length : Nat)) = True := eq_true (by omega)
      have e2 : ((65536 * pgs.length : Nat) : Int) - b.length = ((65536 * pgs.length - b.length : Nat) : Int) := by omega
      obtain ⟨K1, hg⟩ := uai (m := m) (z := z) (b := b) (at_ := 65536 * pgs.length - b.length) hm (by omega) hmx hmm hb (Or.inl (by omega))
      obtain ⟨K', hK'⟩ := u2t (H := H) (v := .bool true) (K := K1)
      refine ⟨K', ?_⟩
      rw [← hK', u0m]
      simp +contextual -dsimp (disch := omega) only [↓goDown, goUp, cr, simprocAttr, u0r, hbx, hld, hn, udj, hsz, hlen, e1, c1, e2, hg, decide_true]
    · have c1 : ((b.length : Int) < (65536 * pgs.length : Nat)) = False := eq_false (by omega)
      obtain ⟨K1, hg⟩ := uai (m := m) (z := z) (b := b) (at_ := 0) hm (by omega) hmx hmm hb (Or.inr ⟨rfl, by omega⟩)
      have hg : run (u08 (.int .u64 m) (.slice false z 1 (bytes b)) (.bool false) (.ptr c 0) (.int .u64 (65536 * pgs.length : Nat)) (.int .u64 0)) K = some (.ok (.bool true) K1) := hg
      obtain ⟨K', hK'⟩ := u2t (H := H) (v := .bool true) (K := K1)
      refine ⟨K', ?_⟩
      rw [← hK', u0m]
      simp +contextual -dsimp (disch := omega) only [↓goDown, goUp, cr, simprocAttr, u0r, hbx, hld, hn, udj, hsz, hlen, e1, c1, hg, decide_false]
theorem grows_true {H : Heap} {z : Bool} {b : List UInt8} {a0 : LT} {a1 : Int} (w0 : ok_LT a0) (w1 : (Lit.int .u64 a1).wf = true) (hb : b.length ≤ 140737488351232) :
    ∃ K, C u0i [.agg (cs_LT a0), .int .u64 a1, BS z b] H = some (.ok (.bool true) K) := by
  obtain ⟨l0, mn, mx, hx⟩ := a0
  obtain ⟨_, w2, w3, _⟩ := w0
  obtain ⟨n1, rfl, h1⟩ := u64_of w1
  obtain ⟨n2, rfl, h2⟩ := u64_of w2
  obtain ⟨n3, rfl, h3⟩ := u64_of w3
  exact ugw h2 h3 h1 hb
end Go.Proofs.Ytjcffopjohkmaaa.Pi.Q
