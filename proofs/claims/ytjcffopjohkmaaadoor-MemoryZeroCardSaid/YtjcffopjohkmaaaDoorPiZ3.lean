/- What the law rests on, part 4 of 4: a reading of the program's code over told data, and what it comes to. -/
import Derived.Test.YtjcffopjohkmaaaDoorPiZ2
set_option linter.unusedVariables false
set_option linter.unusedSimpArgs false
set_option maxRecDepth 100000
namespace Go.Proofs.YtjcffopjohkmaaaDoor.Pi
theorem goDown : type_of% (And.intro (And.intro (And.intro (And.intro (And.intro @run_bind @udi) (And.intro @u8y @ua4)) (And.intro (And.intro @ubc
    @run_nb) (And.intro @nbR_ok @uhb))) (And.intro (And.intro (And.intro @u76 @u80) (And.intro @u62 @uak)) (And.intro
    (And.intro @u4y @uaf) (And.intro @ude (And.intro @udv @ugn))))) (And.intro (And.intro (And.intro (And.intro @ugp
    @uhs) (And.intro @run_pure @ugy)) (And.intro (And.intro @uf8 @u6t) (And.intro @uc3 @u7z))) (And.intro (And.intro
    (And.intro @u74 @u87) (And.intro @ugb @ud3)) (And.intro (And.intro @uaw @ua7) (And.intro @uit (And.intro
    @uey @uds)))))) := (And.intro (And.intro (And.intro (And.intro (And.intro @run_bind @udi) (And.intro @u8y @ua4)) (And.intro (And.intro @ubc
    @run_nb) (And.intro @nbR_ok @uhb))) (And.intro (And.intro (And.intro @u76 @u80) (And.intro @u62 @uak)) (And.intro
    (And.intro @u4y @uaf) (And.intro @ude (And.intro @udv @ugn))))) (And.intro (And.intro (And.intro (And.intro @ugp
    @uhs) (And.intro @run_pure @ugy)) (And.intro (And.intro @uf8 @u6t) (And.intro @uc3 @u7z))) (And.intro (And.intro
    (And.intro @u74 @u87) (And.intro @ugb @ud3)) (And.intro (And.intro @uaw @ua7) (And.intro @uit (And.intro
    @uey @uds))))))
theorem goUp : type_of% (And.intro (And.intro (And.intro (And.intro (And.intro (And.intro (And.intro @u8r (And.intro @ue6 @run_al)) (And.intro (And.intro @run_bx
    @run_ld) (And.intro @run_st @uea))) (And.intro (And.intro (And.intro @ue9 @ueh) (And.intro @u9w @ua0)) (And.intro
    (And.intro @ldB_t @ldB_f) (And.intro @stB_is @udz)))) (And.intro (And.intro (And.intro @uel (And.intro @u56 @u5w)) (And.intro
    (And.intro @u3g @u9e) (And.intro @ueo @u9s))) (And.intro (And.intro (And.intro @u7c @set_set) (And.intro @u7a @cut0))
    (And.intro (And.intro @cut1 @cut2) (And.intro @cutA0 @cutA1))))) (And.intro (And.intro (And.intro (And.intro @cutA2 (And.intro @u4d @u2g))
    (And.intro (And.intro @w_i64 @w_u64) (And.intro @w_u8 @w_u32))) (And.intro (And.intro (And.intro @w_i32 @ugm) (And.intro @ug3 @udp))
    (And.intro (And.intro @uh3 @run_fa) (And.intro @ug0 @uf9)))) (And.intro (And.intro (And.intro @nc_ptr (And.intro @ugh @nc_nil))
    (And.intro (And.intro @run_mi @run_pn) (And.intro @uhd @uga))) (And.intro (And.intro (And.intro @uhr @uhm) (And.intro @uf4
    @ueq)) (And.intro (And.intro @udg @ub7) (And.intro @u7w @uac)))))) (And.intro (And.intro (And.intro (And.intro
    (And.intro @ua3 (And.intro @uaq @ucz)) (And.intro (And.intro @u8z @u7n) (And.intro @u8g @u82)))
    (And.intro (And.intro (And.intro @u7x @uew) (And.intro @ub3 @u89)) (And.intro (And.intro @uab @ubv) (And.intro
    @ubl @ugu)))) (And.intro (And.intro (And.intro @uau (And.intro @u8b @uaj)) (And.intro (And.intro @ubf
    @ubn) (And.intro @ug7 @uai))) (And.intro (And.intro (And.intro @u85 @uby) (And.intro @ubp @ube))
    (And.intro (And.intro @ugf @u8o) (And.intro @u7e @u8f))))) (And.intro (And.intro (And.intro (And.intro @u84
    (And.intro @u7u @uf0)) (And.intro (And.intro @u6w @u5o) (And.intro @u7j @u6n))) (And.intro (And.intro
    (And.intro @u6z @ubq) (And.intro @uex @uah)) (And.intro (And.intro @uem @ue5) (And.intro @ue0 @low_fn))))
    (And.intro (And.intro (And.intro @u6p (And.intro @u5d @u68)) (And.intro (And.intro @u6l @u7g) (And.intro
    @uc5 @u79))) (And.intro (And.intro (And.intro @u5g @u7k) (And.intro @u6y @u7b)) (And.intro
    (And.intro @u75 @u46) (And.intro @u3o @u43))))))) (And.intro (And.intro (And.intro (And.intro (And.intro
    (And.intro @u48 (And.intro @u45 @u58)) (And.intro (And.intro @uap @u90) (And.intro @uba
    @ubw))) (And.intro (And.intro (And.intro @ubj @ucs) (And.intro @ubi @u8s)) (And.intro (And.intro @ubd
    @ubt) (And.intro @uas @uin)))) (And.intro (And.intro (And.intro @u7o (And.intro @u5m @u6q)) (And.intro
    (And.intro @u6v @u63) (And.intro @uc4 @u9f))) (And.intro (And.intro (And.intro @u78 @udm) (And.intro @run_bd
    @u7f)) (And.intro (And.intro @u5k @ubu) (And.intro @run_bs @ui3))))) (And.intro (And.intro (And.intro (And.intro
    @uh8 (And.intro @uf2 @ueb)) (And.intro (And.intro @uan @u66) (And.intro @u6g @u6d))) (And.intro
    (And.intro (And.intro @u6u @u59) (And.intro @u5a @u4h)) (And.intro (And.intro @ucc @u8n)
    (And.intro @ua2 @u72)))) (And.intro (And.intro (And.intro @uca (And.intro @u9x @u8h)) (And.intro (And.intro
    @uc9 @u47) (And.intro @u69 @uec))) (And.intro (And.intro (And.intro @u6r @ubk) (And.intro @u8l
    @u67)) (And.intro (And.intro @u88 @u5h) (And.intro @u8j @u8m)))))) (And.intro (And.intro (And.intro
    (And.intro (And.intro @u83 (And.intro @u37 @u5f)) (And.intro (And.intro @ubz @bi_add) (And.intro @bi_sub
    @bi_mul))) (And.intro (And.intro (And.intro @bi_eql @bi_neq) (And.intro @bi_lss @bi_leq)) (And.intro (And.intro @bi_gtr @bi_geq) (And.intro
    @ui0 @uh0)))) (And.intro (And.intro (And.intro @ugd (And.intro @ui6 @un_not)) (And.intro (And.intro @ub9 @uid) (And.intro
    @mx_int @mn_int))) (And.intro (And.intro (And.intro @cv_int @Bool.and_true) (And.intro @Bool.true_and @Bool.and_self)) (And.intro (And.intro
    @Bool.not_true @Bool.not_false) (And.intro @Bool.and_false @Bool.false_and))))) (And.intro (And.intro (And.intro (And.intro @Bool.or_true
    (And.intro @Bool.or_false @Bool.true_or)) (And.intro (And.intro @Bool.false_or @Bool.false_eq_true) (And.intro @decide_eq_true_eq @and_self)))
    (And.intro (And.intro (And.intro @and_true @true_and) (And.intro @not_true_eq_false @not_false_eq_true)) (And.intro (And.intro @Nat.zero_add
    @Nat.add_zero) (And.intro @Nat.le_refl @Nat.lt_add_one)))) (And.intro (And.intro (And.intro (And.intro @Nat.lt_irrefl @and_false) (And.intro
    @false_and @Bool.not_eq_true')) (And.intro (And.intro @Bool.not_eq_eq_eq_not @decide_eq_false_iff_not) (And.intro @Bool.and_eq_true
    @Bool.or_eq_true))) (And.intro (And.intro (And.intro @decide_true @decide_false) (And.intro @u4n @u4v)) (And.intro (And.intro @u5y
    @u6f) (And.intro @u5t @u9d)))))))) := (And.intro (And.intro (And.intro (And.intro (And.intro (And.intro (And.intro @u8r (And.intro @ue6 @run_al)) (And.intro (And.intro @run_bx
    @run_ld) (And.intro @run_st @uea))) (And.intro (And.intro (And.intro @ue9 @ueh) (And.intro @u9w @ua0)) (And.intro
    (And.intro @ldB_t @ldB_f) (And.intro @stB_is @udz)))) (And.intro (And.intro (And.intro @uel (And.intro @u56 @u5w)) (And.intro
    (And.intro @u3g @u9e) (And.intro @ueo @u9s))) (And.intro (And.intro (And.intro @u7c @set_set) (And.intro @u7a @cut0))
    (And.intro (And.intro @cut1 @cut2) (And.intro @cutA0 @cutA1))))) (And.intro (And.intro (And.intro (And.intro @cutA2 (And.intro @u4d @u2g))
    (And.intro (And.intro @w_i64 @w_u64) (And.intro @w_u8 @w_u32))) (And.intro (And.intro (And.intro @w_i32 @ugm) (And.intro @ug3 @udp))
    (And.intro (And.intro @uh3 @run_fa) (And.intro @ug0 @uf9)))) (And.intro (And.intro (And.intro @nc_ptr (And.intro @ugh @nc_nil))
    (And.intro (And.intro @run_mi @run_pn) (And.intro @uhd @uga))) (And.intro (And.intro (And.intro @uhr @uhm) (And.intro @uf4
    @ueq)) (And.intro (And.intro @udg @ub7) (And.intro @u7w @uac)))))) (And.intro (And.intro (And.intro (And.intro
    (And.intro @ua3 (And.intro @uaq @ucz)) (And.intro (And.intro @u8z @u7n) (And.intro @u8g @u82)))
    (And.intro (And.intro (And.intro @u7x @uew) (And.intro @ub3 @u89)) (And.intro (And.intro @uab @ubv) (And.intro
    @ubl @ugu)))) (And.intro (And.intro (And.intro @uau (And.intro @u8b @uaj)) (And.intro (And.intro @ubf
    @ubn) (And.intro @ug7 @uai))) (And.intro (And.intro (And.intro @u85 @uby) (And.intro @ubp @ube))
    (And.intro (And.intro @ugf @u8o) (And.intro @u7e @u8f))))) (And.intro (And.intro (And.intro (And.intro @u84
    (And.intro @u7u @uf0)) (And.intro (And.intro @u6w @u5o) (And.intro @u7j @u6n))) (And.intro (And.intro
    (And.intro @u6z @ubq) (And.intro @uex @uah)) (And.intro (And.intro @uem @ue5) (And.intro @ue0 @low_fn))))
    (And.intro (And.intro (And.intro @u6p (And.intro @u5d @u68)) (And.intro (And.intro @u6l @u7g) (And.intro
    @uc5 @u79))) (And.intro (And.intro (And.intro @u5g @u7k) (And.intro @u6y @u7b)) (And.intro
    (And.intro @u75 @u46) (And.intro @u3o @u43))))))) (And.intro (And.intro (And.intro (And.intro (And.intro
    (And.intro @u48 (And.intro @u45 @u58)) (And.intro (And.intro @uap @u90) (And.intro @uba
    @ubw))) (And.intro (And.intro (And.intro @ubj @ucs) (And.intro @ubi @u8s)) (And.intro (And.intro @ubd
    @ubt) (And.intro @uas @uin)))) (And.intro (And.intro (And.intro @u7o (And.intro @u5m @u6q)) (And.intro
    (And.intro @u6v @u63) (And.intro @uc4 @u9f))) (And.intro (And.intro (And.intro @u78 @udm) (And.intro @run_bd
    @u7f)) (And.intro (And.intro @u5k @ubu) (And.intro @run_bs @ui3))))) (And.intro (And.intro (And.intro (And.intro
    @uh8 (And.intro @uf2 @ueb)) (And.intro (And.intro @uan @u66) (And.intro @u6g @u6d))) (And.intro
    (And.intro (And.intro @u6u @u59) (And.intro @u5a @u4h)) (And.intro (And.intro @ucc @u8n)
    (And.intro @ua2 @u72)))) (And.intro (And.intro (And.intro @uca (And.intro @u9x @u8h)) (And.intro (And.intro
    @uc9 @u47) (And.intro @u69 @uec))) (And.intro (And.intro (And.intro @u6r @ubk) (And.intro @u8l
    @u67)) (And.intro (And.intro @u88 @u5h) (And.intro @u8j @u8m)))))) (And.intro (And.intro (And.intro
    (And.intro (And.intro @u83 (And.intro @u37 @u5f)) (And.intro (And.intro @ubz @bi_add) (And.intro @bi_sub
    @bi_mul))) (And.intro (And.intro (And.intro @bi_eql @bi_neq) (And.intro @bi_lss @bi_leq)) (And.intro (And.intro @bi_gtr @bi_geq) (And.intro
    @ui0 @uh0)))) (And.intro (And.intro (And.intro @ugd (And.intro @ui6 @un_not)) (And.intro (And.intro @ub9 @uid) (And.intro
    @mx_int @mn_int))) (And.intro (And.intro (And.intro @cv_int @Bool.and_true) (And.intro @Bool.true_and @Bool.and_self)) (And.intro (And.intro
    @Bool.not_true @Bool.not_false) (And.intro @Bool.and_false @Bool.false_and))))) (And.intro (And.intro (And.intro (And.intro @Bool.or_true
    (And.intro @Bool.or_false @Bool.true_or)) (And.intro (And.intro @Bool.false_or @Bool.false_eq_true) (And.intro @decide_eq_true_eq @and_self)))
    (And.intro (And.intro (And.intro @and_true @true_and) (And.intro @not_true_eq_false @not_false_eq_true)) (And.intro (And.intro @Nat.zero_add
    @Nat.add_zero) (And.intro @Nat.le_refl @Nat.lt_add_one)))) (And.intro (And.intro (And.intro (And.intro @Nat.lt_irrefl @and_false) (And.intro
    @false_and @Bool.not_eq_true')) (And.intro (And.intro @Bool.not_eq_eq_eq_not @decide_eq_false_iff_not) (And.intro @Bool.and_eq_true
    @Bool.or_eq_true))) (And.intro (And.intro (And.intro @decide_true @decide_false) (And.intro @u4n @u4v)) (And.intro (And.intro @u5y
    @u6f) (And.intro @u5t @u9d))))))))
theorem cr : (∀ {α : Type} {a : α} {l : List α}, (a :: l).length = l.length + 1) ∧ (∀ {α : Type}, ([] : List α).length = 0) ∧ (∀ {α β : Type} {f : α → β} {a : α} {l : List α}, (a :: l).map f = f a :: l.map f) ∧ (∀ {α β : Type} {f : α → β}, [].map f = []) ∧ (∀ {α : Type} {a : α} {l : List α} {i : Nat}, (a :: l).take (i + 1) = a :: l.take i) ∧ (∀ {α : Type} {l : List α}, l.take 0 = []) ∧ (∀ {α : Type} {a : α} {l : List α} {i : Nat}, (a :: l).drop (i + 1) = l.drop i) ∧ (∀ {α : Type} {l : List α}, l.drop 0 = l) ∧ (∀ {α : Type} {i : Nat}, ([] : List α).drop i = []) ∧ (∀ {α : Type} {i : Nat}, ([] : List α).take i = []) ∧ (∀ {α : Type} {a : α} {l k : List α}, a :: l ++ k = a :: (l ++ k)) ∧ (∀ {α : Type} {l : List α}, [] ++ l = l) ∧ (∀ {α : Type} {l : List α}, l ++ [] = l) ∧ (∀ {α : Type} {a b : α} {l : List α}, (a :: l).set 0 b = b :: l) ∧ (∀ {α : Type} {a b : α} {l : List α} {i : Nat}, (a :: l).set (i + 1) b = a :: l.set i b) ∧ (∀ {α : Type} {f : α → Bool} {a : α} {l : List α}, (a :: l).all f = (f a && l.all f)) ∧ (∀ {α : Type} {f : α → Bool}, [].all f = true) ∧ (∀ {a b : Int}, a ≥ b ↔ b ≤ a) ∧ (∀ {a b : Nat}, a ≥ b ↔ b ≤ a) ∧ (∀ {a b : Int}, a > b ↔ b < a) ∧ (∀ {a b : Nat}, a > b ↔ b < a) ∧ (∀ {α : Type} [BEq α] [ReflBEq α] {a : α}, (a == a) = true) ∧ (∀ {α : Type} [BEq α] [LawfulBEq α] {a b : α}, (a == b) = true ↔ a = b) ∧ (∀ {α : Type} [BEq α] [LawfulBEq α] {a b : α}, (a != b) = true ↔ a ≠ b) ∧ (∀ {α : Type} {a b : α}, (a ≠ b) = ¬ a = b) ∧ (∀ {α : Type} {p : Prop} [Decidable p] {x y : α}, (if ¬ p then x else y) = if p then y else x) ∧ (∀ {α : Type} {p : Prop} [Decidable p] {x : α}, (if p then x else x) = x) ∧ (∀ {α : Type} {a b : α}, (some a).getD b = a) ∧ (∀ {α : Type} {b : α}, (none : Option α).getD b = b) :=
  ⟨List.length_cons, List.length_nil, List.map_cons, List.map_nil, List.take_succ_cons, List.take_zero, List.drop_succ_cons, List.drop_zero, List.drop_nil, List.take_nil, List.cons_append, (List.nil_append _), (List.append_nil _), List.set_cons_zero, List.set_cons_succ, List.all_cons, List.all_nil, Iff.rfl, Iff.rfl, Iff.rfl, Iff.rfl, (beq_self_eq_true _), beq_iff_eq, bne_iff_ne, (ne_eq _ _), (ite_not _ _ _), (ite_self _), Option.getD_some, Option.getD_none⟩
end Go.Proofs.YtjcffopjohkmaaaDoor.Pi
namespace Go.Proofs.YtjcffopjohkmaaaDoor.Pi
variable {α β σ : Type} {c : Nat} {H : Heap}
def St (H : Heap) (c : Nat) (bx : Box) (L : List Box) : Heap := hadd (hset H c bx) L
def killR (c : Nat) : Option (Out α) → Option (Out α)
  | some (.pan v H) => some (.pan v (hset H c .dead))
  | r => r
def runK (c : Nat) (m : M α) (H : Heap) : Option (Out α) := killR c (run m H)
def bindK (c : Nat) (r : Option (Out α)) (f : α → M β) : Option (Out β) :=
  match r with
  | none => none
  | some (.ok v H) => runK c (f v) H
  | some (.pan v H) => some (.pan v H)
inductive Res (σ α : Type) where
  | ok (v : α) (s : σ)
  | err (t : TypeId) (l : List Int)
  | no
def fltP (t : TypeId) (l : List Int) : PV := .iface t (.agg (l.map (PV.int .i64)))
theorem ugj {t : TypeId} {l : List Int} : fltP t l = .iface t (.agg (l.map (PV.int .i64))) := nrfl rfl
theorem uc8 {n : Nat} : ∀ l : List Int, lowL n (l.map (PV.int .i64)) = true
  | [] => u9f
  | a :: r => by rw [List.map_cons, u78, ucz, uc8 r]; rfl
theorem u9m {t : TypeId} {l : List Int} {n : Nat} : (fltP t l).low n = true := by
  unfold fltP
  rw [u75, ucs]
  exact uc8 l
def Res.bind {σ τ α β : Type} (r : Res σ α) (g : α → σ → Res τ β) : Res τ β :=
  match r with
  | .ok v s => g v s
  | .err t l => .err t l
  | .no => .no
def elimK {σ α γ : Type} (c : Nat) (H : Heap) (L : List Box) (r : Res σ α) (g : α → σ → Option (Out γ)) : Option (Out γ) :=
  match r with
  | .ok v s => g v s
  | .err t l => some (.pan (fltP t l) (St H c .dead L))
  | .no => none
def outK (c : Nat) (H : Heap) (L : List Box) (bx : σ → Box) (enc : α → PV) (r : Res σ α) : Option (Out PV) := elimK c H L r fun v s => some (.ok (enc v) (St H c (bx s) L))
def outS (c : Nat) (H : Heap) (L : List Box) (bx : σ → Box) (enc : α → PV) (r : α × σ) : Option (Out PV) := some (.ok (enc r.1) (St H c (bx r.2) L))
@[congr] theorem uko {r r' : Option (Out α)} {f : α → M β} (h : r = r') : bindK c r f = bindK c r' f := by rw [h]
@[congr] theorem ul7 {σ α γ : Type} {L L' : List Box} {r r' : Res σ α} {g g' : α → σ → Option (Out γ)} (h : r = r') (hL : L = L') (hg : ∀ v s, r' = .ok v s → g v s = g' v s) : elimK c H L r g = elimK c H L' r' g' := by
  subst h hL
  cases r with
  | ok v s => exact hg v s rfl
  | err t l => rfl
  | no => rfl
theorem uhz {L : List Box} {bx : σ → Box} {enc : α → PV} {r : Res σ α} : outK c H L bx enc r = elimK c H L r fun v s => some (.ok (enc v) (St H c (bx s) L)) := nrfl rfl
theorem uis {L : List Box} {bx : σ → Box} {enc : α → PV} {v : α} {s : σ} : outK c H L bx enc (.ok v s) = some (.ok (enc v) (St H c (bx s) L)) := nrfl rfl
theorem ue1 {L : List Box} {bx : σ → Box} {enc : α → PV} {t : TypeId} {l : List Int} : outK c H L bx enc (Res.err t l : Res σ α) = some (.pan (fltP t l) (St H c .dead L)) := nrfl rfl
theorem ug4 {L : List Box} {bx : σ → Box} {enc : α → PV} : outK c H L bx enc (Res.no : Res σ α) = none := nrfl rfl
theorem uf5 {γ : Type} {L : List Box} {g : α → σ → Option (Out γ)} : elimK c H L (Res.no : Res σ α) g = none := nrfl rfl
theorem uay {τ : Type} {β : Type} {L : List Box} {bx : σ → Box} {enc : α → PV} {r : Res τ β} {g : β → τ → Res σ α} : outK c H L bx enc (r.bind g) = elimK c H L r fun v s => outK c H L bx enc (g v s) := by cases r <;> rfl
theorem udl {L : List Box} {bx : σ → Box} {enc : α → PV} {p : Prop} [Decidable p] {r r' : Res σ α} : outK c H L bx enc (if p then r else r') = if p then outK c H L bx enc r else outK c H L bx enc r' := by split <;> rfl
theorem ufb {γ : Type} {L : List Box} {v : α} {s : σ} {g : α → σ → Option (Out γ)} : elimK c H L (.ok v s) g = g v s := nrfl rfl
theorem ub6 {γ : Type} {L : List Box} {t : TypeId} {l : List Int} {g : α → σ → Option (Out γ)} : elimK c H L (Res.err t l : Res σ α) g = some (.pan (fltP t l) (St H c .dead L)) := nrfl rfl
theorem u9y {γ : Type} {L : List Box} {p : Prop} [Decidable p] {r r' : Res σ α} {g : α → σ → Option (Out γ)} : elimK c H L (if p then r else r') g = if p then elimK c H L r g else elimK c H L r' g := by split <;> rfl
theorem u8c {γ τ β : Type} {L : List Box} {r : Res τ β} {f : β → τ → Res σ α} {g : α → σ → Option (Out γ)} : elimK c H L (r.bind f) g = elimK c H L r fun v s => elimK c H L (f v s) g := by cases r <;> rfl
theorem udf {v : α} : killR c (some (.ok v H)) = some (.ok v H) := nrfl rfl
theorem u8d : killR c (none : Option (Out α)) = none := nrfl rfl
theorem u70 {v : PV} : killR c (some (.pan v H) : Option (Out α)) = some (.pan v (hset H c .dead)) := nrfl rfl
theorem ua6 {p : Prop} [Decidable p] {r r' : Option (Out α)} : killR c (if p then r else r') = if p then killR c r else killR c r' := by split <;> rfl
theorem uar {m : M α} {f : α → M β} : runK c (M.bind m f) H = bindK c (runK c m H) f := by
  unfold runK
  rw [run_bind]
  cases run m H with
  | none => rfl
  | some q => cases q <;> rfl
theorem ufd {f : α → M β} {v : α} : bindK c (some (.ok v H)) f = runK c (f v) H := nrfl rfl
theorem u8e {f : α → M β} : bindK c none f = none := nrfl rfl
theorem ubo {f : α → M β} {v : PV} : bindK c (some (.pan v H)) f = some (.pan v H) := nrfl rfl
theorem uav {p : Prop} [Decidable p] {r r' : Option (Out α)} {f : α → M β} : bindK c (if p then r else r') f = if p then bindK c r f else bindK c r' f := by split <;> rfl
theorem u8q {L : List Box} {r : Res σ α} {g : α → σ → Option (Out PV)} {f : PV → M β} : bindK c (elimK c H L r g) f = elimK c H L r fun v s => bindK c (g v s) f := by cases r <;> rfl
noncomputable def nbK (c : Nat) (H : Heap) (r : Option (Out α)) (f : α → M β) : Option (Out β) := killR c (nbR H r f)
@[congr] theorem uln {r r' : Option (Out α)} {f : α → M β} (h : r = r') : nbK c H r f = nbK c H r' f := by rw [h]
theorem uht {m : M α} {f : α → M β} : runK c (nb m f) H = nbK c H (runK c m H) f := by
  unfold nbK runK nbR run nb killR
  dsimp only
  cases m H with
  | none => rfl
  | some q => cases q <;> rfl
theorem nbK_ok {f : α → M β} {v : α} : nbK c H (some (.ok v H)) f = runK c (f v) H := by
  unfold nbK
  rw [nbR_ok]
  rfl
theorem udr {f : α → M β} : nbK c H none f = none := by
  unfold nbK nbR nb
  rfl
theorem ui4 {p : Prop} [Decidable p] {r r' : Option (Out α)} {f : α → M β} : nbK c H (if p then r else r') f = if p then nbK c H r f else nbK c H r' f := by split <;> rfl
theorem ufl {m : M PV} (hc : c < List.length H) : runK c (trunc m) H = truncR H (runK c m H) := by
  unfold runK
  rw [u76]
  cases run m H with
  | none => rfl
  | some q => cases q with
    | ok v K => rfl
    | pan v K =>
      show killR c (bif v.low H.length then some (Out.pan v (hcut K H.length)) else none) = (bif v.low H.length then some (Out.pan v (hcut (hset K c .dead) H.length)) else none)
      cases v.low H.length with
      | false => rfl
      | true =>
        simp only [cond_true, u70, Option.some.injEq, Out.pan.injEq, true_and]
        unfold hset hcut
        rw [List.take_set]
theorem u8p {p : Bool} {m : M α} : runK c (guardM p m) H = if p = true then runK c m H else none := by cases p <;> rfl
theorem uat {v : PV} {m : M PV} : runK c (resT v m) H = if isTup v = true then none else runK c m H := by unfold resT; cases isTup v <;> rfl
theorem uc6 {p : Bool} {x y : M α} : runK c (condM (.bool p) x y) H = if p = true then runK c x H else runK c y H := by cases p <;> rfl
theorem ue3 {p : Bool} {m : M PV} : runK c (gd (.bool p) true m) H = if p = true then runK c m H else some (.ok (.tup []) H) := by cases p <;> rfl
theorem ufa {p : Bool} {m : M PV} : runK c (gd (.bool p) false m) H = if p = true then some (.ok (.tup []) H) else runK c m H := by cases p <;> rfl
theorem udy {b : Bool} {m : M PV} : runK c (gd (.tup []) b m) H = some (.ok (.tup []) H) := nrfl rfl
theorem uaa {v : α} : runK c (M.pure v) H = some (.ok v H) := nrfl rfl
theorem uef {v : PV} : runK c (M.pan v : M α) H = some (.pan v (hset H c .dead)) := nrfl rfl
theorem uam : runK c (M.fail : M α) H = none := nrfl rfl
theorem u86 {m : M PV} : runK c (noPan m) H = noPanR (run m H) := by
  unfold runK
  rw [u6t]
  cases run m H with
  | none => rfl
  | some q => cases q <;> rfl
noncomputable def chkK (c : Nat) (r r' : Option (Out α)) (x : M β) (H : Heap) : Option (Out β) := killR c (chkR r r' x H)
@[congr] theorem ulk {r r' s s' : Option (Out α)} {x : M β} (h : r = s) (h' : r' = s') : chkK c r r' x H = chkK c s s' x H := by rw [h, h']
theorem uf1 {m m' : M α} {x : M β} : runK c (chk m m' x) H = chkK c (run m H) (run m' H) x H := nrfl rfl
theorem uh4 {a : α} {K : Heap} {x : M β} : chkK c (some (.ok a K)) (some (.ok a K)) x H = runK c x H := by
  unfold chkK
  rw [ud3]
  rfl
theorem ucd {r : Option (Out α)} {x : M β} : chkK c none r x H = none := by
  unfold chkK chkR run chk
  rfl
theorem uez {p : Prop} [Decidable p] {r r' s : Option (Out α)} {x : M β} : chkK c (if p then r else r') s x H = if p then chkK c r s x H else chkK c r' s x H := by split <;> rfl
theorem ub1 {r : Option (Out α)} {x : M β} : chkR none r x H = none := by
  unfold chkR run chk
  rfl
theorem uen {p : Prop} [Decidable p] {r r' s : Option (Out α)} {x : M β} : chkR (if p then r else r') s x H = if p then chkR r s x H else chkR r' s x H := by split <;> rfl
section
variable {n : Nat} {id o : Nat} {x y v i : PV} {cs : List PV} {m : Option Nat} {mv b : Bool} {L : List Box}
theorem uhj : runK c (al cs) H = killR c (run (al cs) H) := nrfl rfl
theorem ui8 : runK c (bx n v) H = killR c (run (bx n v) H) := nrfl rfl
theorem uif : runK c (ld m mv v) H = killR c (run (ld m mv v) H) := nrfl rfl
theorem uh2 : runK c (st n mv x v) H = killR c (run (st n mv x v) H) := nrfl rfl
theorem ue2 : runK c (iaS n x i) H = killR c (run (iaS n x i) H) := nrfl rfl
theorem udo {len : Nat} : runK c (ixA len n m x i) H = killR c (run (ixA len n m x i) H) := nrfl rfl
theorem ua5 : runK c (pick v x y) H = killR c (run (pick v x y) H) := nrfl rfl
theorem ugr {t : TypeId} : runK c (mi t v) H = killR c (run (mi t v) H) := nrfl rfl
theorem uii {t : FuncId} {l l' : List PV} : runK c (mf t l l') H = killR c (run (mf t l l') H) := nrfl rfl
theorem uhy {z : List PV} {ps : List (Nat × Nat × PV)} : runK c (bd z ps) H = killR c (run (bd z ps) H) := nrfl rfl
theorem ui5 {l : List PV} : runK c (bs b m l) H = killR c (run (bs b m l) H) := nrfl rfl
theorem ug8 {k : Nat} : runK c (ap b n k x y) H = killR c (run (ap b n k x y) H) := nrfl rfl
theorem ug6 {k : Nat} : runK c (mk b n k x y) H = killR c (run (mk b n k x y) H) := nrfl rfl
theorem ueg : runK c (lnS x) H = killR c (run (lnS x) H) := nrfl rfl
theorem ue7 : runK c (lnL x) H = killR c (run (lnL x) H) := nrfl rfl
theorem udx : runK c (ixS x i) H = killR c (run (ixS x i) H) := nrfl rfl
theorem uev {lo hi : Option PV} : runK c (slS x lo hi) H = killR c (run (slS x lo hi) H) := nrfl rfl
theorem uek {lo hi : Option PV} : runK c (slL n x lo hi) H = killR c (run (slL n x lo hi) H) := nrfl rfl
theorem ugz {k : Cv} : runK c (cv k b x) H = killR c (run (cv k b x) H) := nrfl rfl
theorem uhk : runK c (ex n x) H = killR c (run (ex n x) H) := nrfl rfl
theorem ugv {op : BinOp} {ek : EqK} : runK c (bi op ek x y) H = killR c (run (bi op ek x y) H) := nrfl rfl
theorem len_St {x : Box} : List.length (St H c x L) = List.length H + List.length L := by unfold St; rw [u4d, u2g]
theorem get_St {x : Box} (hc : c < List.length H) : hget (St H c x L) c = some x := by unfold St; rw [u5t hc, u7c hc]
theorem ugk {x : Box} (k : Nat) : hget (St H c x L) (List.length H + k) = nth L k := u4n k
theorem uer {x : Box} : hget (St H c x L) (List.length H) = nth L 0 := u4v
theorem set_St {x y : Box} (hc : c < List.length H) : hset (St H c x L) c y = St H c y L := by unfold St; rw [u9d hc, set_set]
theorem ug9 {x y : Box} (k : Nat) : hset (St H c x L) (List.length H + k) y = St H c x (L.set k y) := u5y k
theorem ue8 {x y : Box} : hset (St H c x L) (List.length H) y = St H c x (L.set 0 y) := u6f
theorem add_St {x : Box} {K : List Box} : hadd (St H c x L) K = St H c x (L ++ K) := u7a
theorem cut_St {x : Box} : hcut (St H c x L) (List.length H) = St H c x [] := by
  unfold St
  rw [cutA1]
  exact (List.append_nil _).symm
theorem u71 {r : Res σ α} {bx : Box} {g : α → σ → Option (Out PV)} : truncR (St H c bx []) (elimK c H L r g) = elimK c H [] r fun v s => truncR (St H c bx []) (g v s) := by
  cases r with
  | ok v s => rfl
  | err t l =>
    show truncR (St H c bx []) (some (Out.pan (fltP t l) (St H c .dead L))) = some (Out.pan (fltP t l) (St H c .dead []))
    rw [u4y, if_pos u9m, len_St, List.length_nil, Nat.add_zero, cut_St]
  | no => rfl
theorem u6b {m : M PV} {x : Box} (hc : c < List.length H) : runK c (trunc m) (St H c x L) = truncR (St H c x L) (runK c m (St H c x L)) := ufl (by rw [len_St]; omega)
theorem uhl {bx : σ → Box} {enc : α → PV} {v : α} {s : σ} : outS c H L bx enc (v, s) = some (.ok (enc v) (St H c (bx s) L)) := nrfl rfl
theorem uil {bx : σ → Box} {enc : α → PV} {r : α × σ} {f : PV → M β} : bindR (outS c H L bx enc r) f = run (f (enc r.1)) (St H c (bx r.2) L) := nrfl rfl
end
end Go.Proofs.YtjcffopjohkmaaaDoor.Pi
namespace Go.Proofs.YtjcffopjohkmaaaDoor.Pi
theorem kDown : type_of% (And.intro (And.intro (And.intro (And.intro (And.intro @uis @ue1) (And.intro @ug4 (And.intro @uf5 @uay))) (And.intro
    (And.intro @udl @ufb) (And.intro @ub6 (And.intro @u9y @u8c)))) (And.intro (And.intro (And.intro @udf @u8d)
    (And.intro @u70 (And.intro @ua6 @uar))) (And.intro (And.intro @ufd (And.intro @u8e @ubo)) (And.intro @uav
    (And.intro @u8q @u71))))) (And.intro (And.intro (And.intro (And.intro @uht @nbK_ok) (And.intro @udr (And.intro @ui4
    @u6b))) (And.intro (And.intro @u8p (And.intro @uat @uc6)) (And.intro @ue3 (And.intro @ufa @udy))))
    (And.intro (And.intro (And.intro @uaa @uef) (And.intro @uam (And.intro @u86 @uf1))) (And.intro (And.intro @uh4
    (And.intro @ucd @uez)) (And.intro @ub1 (And.intro @uen @uil)))))) := (And.intro (And.intro (And.intro (And.intro (And.intro @uis @ue1) (And.intro @ug4 (And.intro @uf5 @uay))) (And.intro
    (And.intro @udl @ufb) (And.intro @ub6 (And.intro @u9y @u8c)))) (And.intro (And.intro (And.intro @udf @u8d)
    (And.intro @u70 (And.intro @ua6 @uar))) (And.intro (And.intro @ufd (And.intro @u8e @ubo)) (And.intro @uav
    (And.intro @u8q @u71))))) (And.intro (And.intro (And.intro (And.intro @uht @nbK_ok) (And.intro @udr (And.intro @ui4
    @u6b))) (And.intro (And.intro @u8p (And.intro @uat @uc6)) (And.intro @ue3 (And.intro @ufa @udy))))
    (And.intro (And.intro (And.intro @uaa @uef) (And.intro @uam (And.intro @u86 @uf1))) (And.intro (And.intro @uh4
    (And.intro @ucd @uez)) (And.intro @ub1 (And.intro @uen @uil))))))
theorem kUp : type_of% (And.intro (And.intro (And.intro (And.intro (And.intro @uhz @uhl) (And.intro @ugj @u9m)) (And.intro (And.intro @uhj @ui8)
    (And.intro @uif @uh2))) (And.intro (And.intro (And.intro @ue2 @udo) (And.intro @ua5 @ugr)) (And.intro (And.intro
    @uii @uhy) (And.intro @ui5 (And.intro @ug8 @ug6))))) (And.intro (And.intro (And.intro (And.intro @ueg @ue7)
    (And.intro @udx @uev)) (And.intro (And.intro @uek @ugz) (And.intro @uhk @ugv))) (And.intro (And.intro (And.intro @len_St
    @get_St) (And.intro @ugk @uer)) (And.intro (And.intro @set_St @ug9) (And.intro @ue8 (And.intro @add_St @cut_St)))))) := (And.intro (And.intro (And.intro (And.intro (And.intro @uhz @uhl) (And.intro @ugj @u9m)) (And.intro (And.intro @uhj @ui8)
    (And.intro @uif @uh2))) (And.intro (And.intro (And.intro @ue2 @udo) (And.intro @ua5 @ugr)) (And.intro (And.intro
    @uii @uhy) (And.intro @ui5 (And.intro @ug8 @ug6))))) (And.intro (And.intro (And.intro (And.intro @ueg @ue7)
    (And.intro @udx @uev)) (And.intro (And.intro @uek @ugz) (And.intro @uhk @ugv))) (And.intro (And.intro (And.intro @len_St
    @get_St) (And.intro @ugk @uer)) (And.intro (And.intro @set_St @ug9) (And.intro @ue8 (And.intro @add_St @cut_St))))))
end Go.Proofs.YtjcffopjohkmaaaDoor.Pi
namespace Go.Proofs.YtjcffopjohkmaaaDoor.Pi
variable {α β : Type} {H : Heap}
noncomputable def chkAR (r2 r1 : Option (Out Env)) (x : M β) (H : Heap) : Option (Out β) := run (chkA (fun _ => r2) (fun _ => r1) x) H
@[congr] theorem ulc {r r' s s' : Option (Out Env)} {x : M β} (h : r = s) (h' : r' = s') : chkAR r r' x H = chkAR s s' x H := by rw [h, h']
end Go.Proofs.YtjcffopjohkmaaaDoor.Pi
namespace Go.Proofs.YtjcffopjohkmaaaDoor.Pi
variable {H K : Heap} {k : IntKind} {n : Int} {v : PV}
noncomputable def u1m (H : Heap) (r : Option (Out PV)) : Option (Out PV) := truncE (fun _ => r) H
theorem u24 {m : M PV} : run (truncE m) H = u1m H (run m H) := nrfl rfl
@[congr] theorem uix {r r' : Option (Out PV)} (h : r = r') : u1m H r = u1m H r' := by rw [h]
open Classical in
theorem u2p : u1m H (some (.ok v K)) = some (.ok v (if v.low H.length = true ∧ hcut K H.length = H then H else K)) := by
  unfold u1m truncE hcut
  rfl
theorem u7r (h : hcut K H.length = H) (hv : v.low H.length = true) : u1m H (some (.ok v K)) = some (.ok v H) := by
  rw [u2p, if_pos ⟨hv, h⟩]
theorem ud2 (hv : v.low H.length = false) : u1m H (some (.ok v K)) = some (.ok v K) := by
  rw [u2p, if_neg (fun h => by rw [hv] at h; cases h.1)]
theorem udc (h : hcut K H.length ≠ H) : u1m H (some (.ok v K)) = some (.ok v K) := by
  rw [u2p, if_neg (fun h' => h h'.2)]
theorem udd : ∃ K', u1m H (some (.ok v K)) = some (.ok v K') := by
  rw [u2p]
  exact ⟨_, rfl⟩
theorem ul8 {m : Nat} {mv : Bool} {id o : Nat} {cs : List PV} (h : hget H id = some (.cells cs)) (h1 : v.cells.length = m) (h2 : o + m ≤ cs.length) (h3 : v.cells.all isCell = true) :
    run (stG true m mv (.ptr id o) v) H = some (.ok .undef (hset H id (.cells (fillAt o (if mv = true then v.cells else v.cells.map stripC) cs)))) := by
  unfold run stG
  have h : H[id]? = some (.cells cs) := h
  dsimp only
  rw [h]
  dsimp only
  rw [h1, beq_self_eq_true, decide_eq_true h2, h3]
  cases mv <;> rfl
theorem ule {P : Program} {t : TypeId} {z : Value} (h : (P.info? t).bind (·.zero) = some z) : run (alZ P t) H = some (.ok (.ptr H.length 0) (hadd H [.cells (okC (ofV z).cells)])) := by
  unfold run alZ
  rw [h]
  rfl
theorem ujd {p : PV} (h : isCell p = true) : run (bsL 1 [p]) H = some (.ok (.lit 1 1 [stripC p]) H) := by
  have e : p.cells = [p] := by cases p <;> first | rfl | simp [isCell] at h
  unfold run bsL
  simp only [List.all_cons, List.all_nil, e, h, List.length_cons, List.length_nil, Bool.and_true, List.flatMap_cons, List.flatMap_nil, List.append_nil, List.map_cons, List.map_nil]
  rfl
theorem ulf {own : Bool} {a : Option Nat} {sz b sx m : Nat} {cs : List PV} (h0 : m ≠ 0) (hg : growB b m = true) : run (apL own a sz b true (.slice false true sx []) (.lit sz m cs)) H = some (.ok (.win H.length 0 sz m) (hadd H [.cells cs])) := by
  unfold run
  show pushW sz b (.slice false true sx []) (.lit sz m cs) H = _
  unfold pushW u3w
  have : (m == 0) = false := by simpa using h0
  simp only [beq_self_eq_true, cond_true, this, cond_false, hg]
  rfl
theorem ukn {own nw : Bool} {a : Option Nat} {id sz b n0 m : Nat} {cs ds : List PV} (h : hget H id = some (.cells ds)) (hl : n0 * sz ≤ ds.length) (hg : growB b (n0 + m) = true) :
    run (apL own a sz b nw (.win id 0 sz n0) (.lit sz m cs)) H = some (.ok (.win H.length 0 sz (n0 + m)) (hadd (hset H id .dead) [.cells (ds.take (n0 * sz) ++ cs)])) := by
  unfold run
  show pushW sz b (.win id 0 sz n0) (.lit sz m cs) H = _
  unfold pushW u3w
  have h : H[id]? = some (.cells ds) := h
  simp only [beq_self_eq_true, cond_true, h, decide_eq_true hl, hg, Bool.and_self]
  rfl
theorem uh1 {i o : Nat} : run (bi .eql .ptr (.ptr i o) .nil) H = some (.ok (.bool false) H) := nrfl rfl
theorem ukr : run (bi .eql .ptr .nil .nil) H = some (.ok (.bool true) H) := nrfl rfl
theorem ukw {i o : Nat} : run (bi .neq .ptr (.ptr i o) .nil) H = some (.ok (.bool true) H) := nrfl rfl
theorem ucx {b : Bool} : run (un .not (.bool b)) H = some (.ok (.bool (!b)) H) := nrfl rfl
end Go.Proofs.YtjcffopjohkmaaaDoor.Pi
namespace Go.Proofs.YtjcffopjohkmaaaDoor.Pi.Q
open Go Go.Proofs.YtjcffopjohkmaaaDoor.Pi
noncomputable abbrev P : Program := Tryd.prog
noncomputable abbrev X : ExtT := fun _ => none
noncomputable abbrev C := callW P X
noncomputable abbrev CD := callDW P X
abbrev u0w : FuncId := 4
abbrev u2f : FuncId := 5
abbrev u0x : FuncId := 6
abbrev u0t : FuncId := 9
abbrev u0l : FuncId := 10
abbrev u0y : FuncId := 11
abbrev u0n : FuncId := 12
abbrev u0g : FuncId := 13
abbrev u11 : FuncId := 14
abbrev u0d : FuncId := 15
abbrev u18 : FuncId := 16
abbrev u0m : FuncId := 17
abbrev u0r : FuncId := 18
abbrev u01 : FuncId := 19
abbrev u0q : FuncId := 20
abbrev u4f : FuncId := 27
abbrev u2u : FuncId := 28
abbrev u34 : FuncId := 29
abbrev ucp : FuncId := 30
abbrev k_PAGE : TypeId := 70
end Go.Proofs.YtjcffopjohkmaaaDoor.Pi.Q
namespace Go.Proofs.YtjcffopjohkmaaaDoor.Pi.Q
open Go Go.Proofs.YtjcffopjohkmaaaDoor.Pi
theorem u2c (a0 a1 : PV) : C u0w [a0, a1] =
 truncE (M.bind (al [(.bool false), (.bool false), (.int .u64 0), (.int .u64 0), (.bool false), (.slice false true 0 [])]) fun t6_0 =>
 M.bind (C u0y [.nil, (.int .i64 40), (strip (strip a0)), (.int .u64 0)]) fun t21_1 =>
 M.bind (ex 0 t21_1) fun t22_2 =>
 M.bind (ex 1 (tupDrop 0 t21_1)) fun t23_3 =>
 M.bind (C u0l [(strip t6_0), (strip (strip a0)), (.int .u64 0)]) fun t26_4 =>
 M.bind (ex 0 t26_4) fun t27_5 =>
 M.bind (ex 1 (tupDrop 0 t26_4)) fun t28_6 =>
 M.bind (C u0n [.nil, (.int .u64 1), (.int .u64 1)]) fun t31_7 =>
 M.bind (ex 0 t31_7) fun t32_8 =>
 M.bind (ex 1 (tupDrop 0 t31_7)) fun t33_9 =>
 M.bind (C u0n [(strip t6_0), (.int .u64 0), (.int .u64 1)]) fun t35_10 =>
 M.bind (ex 0 t35_10) fun t36_11 =>
 M.bind (ex 1 (tupDrop 0 t35_10)) fun t37_12 =>
 M.bind (bd [(.bool false), (.int .u64 0), (.int .u64 0), (.bool false)] [(1, 1, (.int .u64 1))]) fun t39_13 =>
 M.bind (C u2f [(strip t39_13), (.int .u64 1)]) fun t40_14 =>
 M.bind (ex 0 t40_14) fun t41_15 =>
 M.bind (ex 1 (tupDrop 0 t40_14)) fun t42_16 =>
 M.bind (bi .neq .ptr (strip t41_15) .nil) fun t44_17 =>
 M.bind (gd (strip t44_17) true (M.pure (strip t23_3))) fun t46_18 =>
 M.bind (gd (strip t44_17) true (M.pure (.int .i64 7))) fun t47_19 =>
 M.bind (gd (strip t44_17) true (bi .eql .none t46_18 t47_19)) fun t48_20 =>
 M.bind (pick (strip t44_17) t48_20 (.bool false)) fun t49_21 =>
 M.bind (gd (strip t49_21) true (M.pure (strip t28_6))) fun t51_22 =>
 M.bind (gd (strip t49_21) true (M.pure (.int .i64 7))) fun t52_23 =>
 M.bind (gd (strip t49_21) true (bi .eql .none t51_22 t52_23)) fun t53_24 =>
 M.bind (pick (strip t49_21) t53_24 (.bool false)) fun t54_25 =>
 M.bind (gd (strip t54_25) true (M.pure (strip t32_8))) fun t56_26 =>
 M.bind (gd (strip t54_25) true (bi .eql .none t56_26 (.int .u64 0))) fun t57_27 =>
 M.bind (pick (strip t54_25) t57_27 (.bool false)) fun t58_28 =>
 M.bind (gd (strip t58_28) true (M.pure (strip t36_11))) fun t60_29 =>
 M.bind (gd (strip t58_28) true (bi .eql .none t60_29 (.int .u64 0))) fun t61_30 =>
 M.bind (pick (strip t58_28) t61_30 (.bool false)) fun t62_31 =>
 M.bind (gd (strip t62_31) true (M.pure (strip t33_9))) fun t64_32 =>
 M.bind (gd (strip t62_31) true (un .not t64_32)) fun t65_33 =>
 M.bind (pick (strip t62_31) t65_33 (.bool false)) fun t66_34 =>
 M.bind (gd (strip t66_34) true (M.pure (strip t37_12))) fun t68_35 =>
 M.bind (gd (strip t66_34) true (un .not t68_35)) fun t69_36 =>
 M.bind (pick (strip t66_34) t69_36 (.bool false)) fun t70_37 =>
 M.bind (gd (strip t70_37) true (M.pure .nil)) fun t72_38 =>
 M.bind (gd (strip t70_37) true (C u0g [(strip t72_38)])) fun t73_39 =>
 M.bind (gd (strip t70_37) true (bi .eql .none t73_39 (.int .u64 0))) fun t74_40 =>
 M.bind (pick (strip t70_37) t74_40 (.bool false)) fun t75_41 =>
 M.bind (gd (strip t75_41) true (C u11 [(strip t6_0)])) fun t77_42 =>
 M.bind (gd (strip t75_41) true (bd [(.bool false), (.int .u64 0), (.int .u64 0), (.bool false)] [])) fun t78_43 =>
 M.bind (gd (strip t75_41) true (bi .eql (.struct [.bool, .int, .int, .bool]) t77_42 t78_43)) fun t79_44 =>
 M.bind (pick (strip t75_41) t79_44 (.bool false)) fun t80_45 =>
 M.bind (gd (strip t80_45) true (M.pure (strip a0))) fun t82_46 =>
 M.bind (gd (strip t80_45) true (C u0t [(strip t6_0), (.int .i64 54), (strip t82_46), (.int .u64 0), (.int .u64 1)])) fun t83_47 =>
 M.bind (gd (strip t80_45) true (M.pure (.int .i64 7))) fun t84_48 =>
 M.bind (gd (strip t80_45) true (bi .eql .none t83_47 t84_48)) fun t85_49 =>
 M.bind (pick (strip t80_45) t85_49 (.bool false)) fun t86_50 =>
 M.bind (gd (strip t86_50) true (M.pure .nil)) fun t88_51 =>
 M.bind (gd (strip t86_50) true (M.pure (strip a0))) fun t89_52 =>
 M.bind (gd (strip t86_50) true (C u0x [(strip t88_51), (strip t89_52), (.int .u8 0), (.int .u64 0)])) fun t90_53 =>
 M.bind (gd (strip t86_50) true (M.pure (.int .i64 7))) fun t91_54 =>
 M.bind (gd (strip t86_50) true (bi .eql .none t90_53 t91_54)) fun t92_55 =>
 M.bind (pick (strip t86_50) t92_55 (.bool false)) fun t93_56 =>
 M.bind (gd (strip t93_56) true (M.pure (strip a0))) fun t95_57 =>
 M.bind (gd (strip t93_56) true (M.pure (strip a1))) fun t96_58 =>
 M.bind (gd (strip t93_56) true (C u0d [(strip t6_0), (strip t95_57), (strip t96_58)])) fun t97_59 =>
 M.bind (gd (strip t93_56) true (M.pure (.int .i64 7))) fun t98_60 =>
 M.bind (gd (strip t93_56) true (bi .eql .none t97_59 t98_60)) fun t99_61 =>
 M.bind (pick (strip t93_56) t99_61 (.bool false)) fun t100_62 =>
 M.bind (gd (strip t100_62) true (M.pure .nil)) fun t102_63 =>
 M.bind (gd (strip t100_62) true (M.pure (strip a0))) fun t103_64 =>
 M.bind (gd (strip t100_62) true (M.pure (strip a1))) fun t104_65 =>
 M.bind (gd (strip t100_62) true (C u18 [(strip t102_63), (strip t103_64), (strip t104_65), (.int .u64 0), (.int .u64 0)])) fun t105_66 =>
 M.bind (gd (strip t100_62) true (M.pure (.int .i64 7))) fun t106_67 =>
 M.bind (gd (strip t100_62) true (bi .eql .none t105_66 t106_67)) fun t107_68 =>
 M.bind (pick (strip t100_62) t107_68 (.bool false)) fun t108_69 =>
 M.bind (gd (strip t108_69) true (M.pure (strip t41_15))) fun t110_70 =>
 M.bind (gd (strip t108_69) true (C u0m [(strip t110_70), (.int .u64 0), (strip t6_0), (.int .u64 0), (.int .u64 0)])) fun t111_71 =>
 M.bind (gd (strip t108_69) true (M.pure (.int .i64 7))) fun t112_72 =>
 M.bind (gd (strip t108_69) true (bi .eql .none t111_71 t112_72)) fun t113_73 =>
 M.bind (pick (strip t108_69) t113_73 (.bool false)) fun t114_74 =>
 M.bind (gd (strip t114_74) true (M.pure (strip t41_15))) fun t116_75 =>
 M.bind (gd (strip t114_74) true (C u0m [(strip t6_0), (.int .u64 0), (strip t116_75), (.int .u64 0), (.int .u64 0)])) fun t117_76 =>
 M.bind (gd (strip t114_74) true (M.pure (.int .i64 7))) fun t118_77 =>
 M.bind (gd (strip t114_74) true (bi .eql .none t117_76 t118_77)) fun t119_78 =>
 M.bind (pick (strip t114_74) t119_78 (.bool false)) fun t120_79 =>
 resT t120_79 (M.pure t120_79)) := by
 rw [C, u12 _ _ rfl]; kernel_rfl
theorem u95 (a0 a1 : PV) : C u2f [a0, a1] =
 truncE (M.bind (bx 4 a0) fun t2_0 =>
 M.bind (fa 1 t2_0) fun t7_1 =>
 M.bind (ld none false t7_1) fun t8_2 =>
 M.bind (bi .gtr .none t8_2 (strip a1)) fun t10_3 =>
 M.bind (gd (strip t10_3) false (fa 1 t2_0)) fun t12_4 =>
 M.bind (gd (strip t10_3) false (ld none false t12_4)) fun t13_5 =>
 M.bind (gd (strip t10_3) false (bi .gtr .none t13_5 (.int .u64 64))) fun t14_6 =>
 M.bind (pick (strip t10_3) (.bool true) t14_6) fun t15_7 =>
 condM t15_7
 (M.pure (.tup [.nil, (.int .i64 211)]))
 (M.bind (fa 3 t2_0) fun t16_8 =>
 M.bind (ld none false t16_8) fun t17_9 =>
 M.bind (gd (strip t17_9) true (fa 2 t2_0)) fun t19_10 =>
 M.bind (gd (strip t17_9) true (ld none false t19_10)) fun t20_11 =>
 M.bind (gd (strip t17_9) true (fa 1 t2_0)) fun t21_12 =>
 M.bind (gd (strip t17_9) true (ld none false t21_12)) fun t22_13 =>
 M.bind (gd (strip t17_9) true (bi .lss .none t20_11 t22_13)) fun t23_14 =>
 M.bind (pick (strip t17_9) t23_14 (.bool false)) fun t24_15 =>
 condM t24_15
 (M.pure (.tup [.nil, (.int .i64 1)]))
 (M.bind (ld (some 4) false t2_0) fun t25_16 =>
 M.bind (bd [(.bool false), (.bool false), (.int .u64 0), (.int .u64 0), (.bool false), (.slice false true 0 [])] [(0, 1, (.bool true)), (1, 4, t25_16)]) fun t26_17 =>
 M.bind (bx 6 t26_17) fun t27_18 =>
 M.bind (fa 1 t2_0) fun t29_19 =>
 M.bind (ld none false t29_19) fun t30_20 =>
 M.bind (C u0r [(strip (strip t27_18)), (strip t30_20)]) fun t31_21 =>
 resT t27_18 (M.pure (.tup [t27_18, (.int .i64 0)]))))) := by
 rw [C, u12 _ _ rfl]; kernel_rfl
noncomputable def u2b (v0 v1 v2 v8 v19 v20 : PV) : M PV := atP P X u0x [1, 1, 0, 1, 0] (mkEnv 31 0 [(0, v0), (1, v1), (2, v2), (8, v8), (19, v19), (20, v20)])
theorem u3b (a0 a1 a2 a3 : PV) : C u0x [a0, a1, a2, a3] =
 trunc (M.bind (C u01 [(strip (strip a0))]) fun t12_0 =>
 condM t12_0
 (M.pure (.int .i64 7))
 (M.bind (C u0q [(strip (strip a0)), (strip (strip a1)), (strip (strip a3))]) fun t17_1 =>
 M.bind (un .not t17_1) fun t18_2 =>
 condM t18_2
 (M.pure (.int .i64 210))
 (u2b a0 a1 a2 (.int .i64 0) (strip a3) (.int .u64 0)))) := by
 rw [C, u12 _ _ rfl]; kernel_rfl
noncomputable def u1n (v10 v16 v50 v51 : PV) : M PV := atP P X u0t [1, 1, 1, 1, 1, 1, 0, 1, 0] (mkEnv 58 0 [(10, v10), (16, v16), (50, v50), (51, v51)])
theorem u36 (a0 a1 a2 a3 a4 : PV) : C u0t [a0, a1, a2, a3, a4] =
 trunc (M.bind (bx 1 a0) fun t5_0 =>
 M.bind (bx 1 a2) fun t7_1 =>
 M.bind (bx 1 a3) fun t8_2 =>
 M.bind (bx 1 a4) fun t9_3 =>
 M.bind (ld none false t5_0) fun t18_4 =>
 M.bind (C u01 [(strip t18_4)]) fun t19_5 =>
 condM t19_5
 (M.pure (.int .i64 7))
 (M.bind (C u4f [(strip (strip a1))]) fun t22_6 =>
 M.bind (ex 0 t22_6) fun t23_7 =>
 M.bind (ex 1 (tupDrop 0 t22_6)) fun t24_8 =>
 M.bind (ex 2 (tupDrop 1 (tupDrop 0 t22_6))) fun t25_9 =>
 M.bind (ex 3 (tupDrop 2 (tupDrop 1 (tupDrop 0 t22_6)))) fun t26_10 =>
 M.bind (ex 4 (tupDrop 3 (tupDrop 2 (tupDrop 1 (tupDrop 0 t22_6))))) fun t27_11 =>
 M.bind (al [(.int .i64 0), (.bool false), (.int .i64 0)]) fun t11_12 =>
 M.bind (st 3 true t11_12 t23_7) fun _ =>
 M.bind (bi .neq .none (strip t27_11) (.int .i64 0)) fun t29_14 =>
 M.bind (gd (strip t29_14) false (M.pure (strip t25_9))) fun t31_15 =>
 M.bind (gd (strip t29_14) false (un .not t31_15)) fun t32_16 =>
 M.bind (pick (strip t29_14) (.bool true) t32_16) fun t33_17 =>
 condM t33_17
 (M.pure (.int .i64 1))
 (M.bind (ld none false t7_1) fun t34_18 =>
 M.bind (ld none false t8_2) fun t35_19 =>
 M.bind (bi .add .none t34_18 t35_19) fun t36_20 =>
 M.bind (ld none false t7_1) fun t37_21 =>
 M.bind (bi .lss .none t36_20 t37_21) fun t38_22 =>
 M.bind (gd (strip t38_22) false (ld none false t5_0)) fun t40_23 =>
 M.bind (gd (strip t38_22) false (ld none false t7_1)) fun t41_24 =>
 M.bind (gd (strip t38_22) false (ld none false t8_2)) fun t42_25 =>
 M.bind (gd (strip t38_22) false (bi .add .none t41_24 t42_25)) fun t43_26 =>
 M.bind (gd (strip t38_22) false (M.pure (strip t24_8))) fun t44_27 =>
 M.bind (gd (strip t38_22) false (cv (.int .u64) true t44_27)) fun t45_28 =>
 M.bind (gd (strip t38_22) false (C u0q [(strip t40_23), (strip t43_26), (strip t45_28)])) fun t46_29 =>
 M.bind (gd (strip t38_22) false (un .not t46_29)) fun t47_30 =>
 M.bind (pick (strip t38_22) (.bool true) t47_30) fun t48_31 =>
 condM t48_31
 (M.pure (.int .i64 210))
 (M.bind (mf u2u [] [t9_3, t5_0, t7_1, t8_2]) fun t49_32 =>
 u1n (.int .i64 0) t49_32 (strip t24_8) (.int .i64 0))))) := by
 rw [C, u12 _ _ rfl]; kernel_rfl
noncomputable def u29 (v0 v1 v6 v7 v8 v21 v22 : PV) : M PV := atP P X u0l [1, 1, 1, 0, 1, 0] (mkEnv 37 0 [(0, v0), (1, v1), (6, v6), (7, v7), (8, v8), (21, v21), (22, v22)])
theorem u3c (a0 a1 a2 : PV) : C u0l [a0, a1, a2] =
 trunc (M.bind (C u01 [(strip (strip a0))]) fun t12_0 =>
 condM t12_0
 (M.pure (.tup [(.slice false true 0 []), (.int .i64 7)]))
 (M.bind (C u0q [(strip (strip a0)), (strip (strip a1)), (strip (strip a2))]) fun t17_1 =>
 M.bind (un .not t17_1) fun t18_2 =>
 condM t18_2
 (M.pure (.tup [(.slice false true 0 []), (.int .i64 210)]))
 (M.bind (mk true 1 1 (.int .i64 0) (strip a2)) fun t20_3 =>
 u29 a0 a1 (.slice false true 0 []) (.int .i64 0) t20_3 (strip a2) (.int .u64 0)))) := by
 rw [C, u12 _ _ rfl]; kernel_rfl
noncomputable def u1l (v8 v9 v10 v11 v13 v15 v16 v49 v50 : PV) : M PV := atP P X u0y [1, 1, 1, 1, 1, 1, 1, 0, 1, 0] (mkEnv 76 0 [(8, v8), (9, v9), (10, v10), (11, v11), (13, v13), (15, v15), (16, v16), (49, v49), (50, v50)])
theorem u3l (a0 a1 a2 a3 : PV) : C u0y [a0, a1, a2, a3] =
 trunc (M.bind (bx 1 a0) fun t4_0 =>
 M.bind (bx 1 a2) fun t6_1 =>
 M.bind (bx 1 a3) fun t7_2 =>
 M.bind (ld none false t4_0) fun t18_3 =>
 M.bind (C u01 [(strip t18_3)]) fun t19_4 =>
 condM t19_4
 (M.pure (.tup [(.int .u64 0), (.int .i64 7)]))
 (M.bind (C u4f [(strip (strip a1))]) fun t22_5 =>
 M.bind (ex 0 t22_5) fun t23_6 =>
 M.bind (ex 1 (tupDrop 0 t22_5)) fun t24_7 =>
 M.bind (ex 2 (tupDrop 1 (tupDrop 0 t22_5))) fun t25_8 =>
 M.bind (ex 3 (tupDrop 2 (tupDrop 1 (tupDrop 0 t22_5)))) fun t26_9 =>
 M.bind (ex 4 (tupDrop 3 (tupDrop 2 (tupDrop 1 (tupDrop 0 t22_5))))) fun t27_10 =>
 M.bind (al [(.int .i64 0), (.bool false), (.int .i64 0)]) fun t10_11 =>
 M.bind (st 3 true t10_11 t23_6) fun _ =>
 M.bind (bi .neq .none (strip t27_10) (.int .i64 0)) fun t29_13 =>
 M.bind (gd (strip t29_13) false (M.pure (strip t25_8))) fun t31_14 =>
 M.bind (pick (strip t29_13) (.bool true) t31_14) fun t32_15 =>
 condM t32_15
 (M.pure (.tup [(.int .u64 0), (.int .i64 1)]))
 (M.bind (ld none false t6_1) fun t33_16 =>
 M.bind (ld none false t7_2) fun t34_17 =>
 M.bind (bi .add .none t33_16 t34_17) fun t35_18 =>
 M.bind (ld none false t6_1) fun t36_19 =>
 M.bind (bi .lss .none t35_18 t36_19) fun t37_20 =>
 M.bind (gd (strip t37_20) false (ld none false t4_0)) fun t39_21 =>
 M.bind (gd (strip t37_20) false (ld none false t6_1)) fun t40_22 =>
 M.bind (gd (strip t37_20) false (ld none false t7_2)) fun t41_23 =>
 M.bind (gd (strip t37_20) false (bi .add .none t40_22 t41_23)) fun t42_24 =>
 M.bind (gd (strip t37_20) false (M.pure (strip t24_7))) fun t43_25 =>
 M.bind (gd (strip t37_20) false (cv (.int .u64) true t43_25)) fun t44_26 =>
 M.bind (gd (strip t37_20) false (C u0q [(strip t39_21), (strip t42_24), (strip t44_26)])) fun t45_27 =>
 M.bind (gd (strip t37_20) false (un .not t45_27)) fun t46_28 =>
 M.bind (pick (strip t37_20) (.bool true) t46_28) fun t47_29 =>
 condM t47_29
 (M.pure (.tup [(.int .u64 0), (.int .i64 210)]))
 (M.bind (al [(.int .u64 0)]) fun t15_30 =>
 M.bind (st 1 false t15_30 (.int .u64 0)) fun _ =>
 M.bind (mf u34 [] [t15_30, t4_0, t6_1, t7_2]) fun t48_32 =>
 u1l (.int .u64 0) (.int .i64 0) t10_11 t24_7 t26_9 t15_30 t48_32 (strip t24_7) (.int .i64 0))))) := by
 rw [C, u12 _ _ rfl]; kernel_rfl
theorem u1w (a0 a1 a2 : PV) : C u0n [a0, a1, a2] =
 truncE (M.bind (C u0g [(strip (strip a0))]) fun t10_0 =>
 M.bind (C u01 [(strip (strip a0))]) fun t12_1 =>
 M.bind (gd (strip t12_1) false (M.pure (strip a1))) fun t14_2 =>
 M.bind (gd (strip t12_1) false (M.pure (strip a2))) fun t15_3 =>
 M.bind (gd (strip t12_1) false (bi .gtr .none t14_2 t15_3)) fun t16_4 =>
 M.bind (pick (strip t12_1) (.bool true) t16_4) fun t17_5 =>
 M.bind (gd (strip t17_5) false (M.pure (strip a1))) fun t19_6 =>
 M.bind (gd (strip t17_5) false (M.pure (strip t10_0))) fun t20_7 =>
 M.bind (gd (strip t17_5) false (bi .sub .none (.int .u64 64) t20_7)) fun t21_8 =>
 M.bind (gd (strip t17_5) false (bi .gtr .none t19_6 t21_8)) fun t22_9 =>
 M.bind (pick (strip t17_5) (.bool true) t22_9) fun t23_10 =>
 M.bind (gd (strip t23_10) false (M.pure (strip a0))) fun t25_11 =>
 M.bind (gd (strip t23_10) false (nc P t25_11)) fun t26_12 =>
 M.bind (gd (strip t23_10) false (fa 1 t26_12)) fun t27_13 =>
 M.bind (gd (strip t23_10) false (fa 3 t27_13)) fun t28_14 =>
 M.bind (gd (strip t23_10) false (ld none false t28_14)) fun t29_15 =>
 M.bind (gd (strip t23_10) false (M.pure (strip t29_15))) fun t30_16 =>
 M.bind (gd t30_16 true (M.pure (strip a0))) fun t31_17 =>
 M.bind (gd t30_16 true (nc P t31_17)) fun t32_18 =>
 M.bind (gd t30_16 true (fa 1 t32_18)) fun t33_19 =>
 M.bind (gd t30_16 true (fa 2 t33_19)) fun t34_20 =>
 M.bind (gd t30_16 true (ld none false t34_20)) fun t35_21 =>
 M.bind (gd t30_16 true (M.pure (strip t10_0))) fun t36_22 =>
 M.bind (gd t30_16 true (bi .lss .none t35_21 t36_22)) fun t37_23 =>
 M.bind (gd t30_16 true (M.pure (strip t37_23))) fun t38_24 =>
 M.bind (gd t38_24 false (M.pure (strip a1))) fun t39_25 =>
 M.bind (gd t38_24 false (M.pure (strip a0))) fun t40_26 =>
 M.bind (gd t38_24 false (nc P t40_26)) fun t41_27 =>
 M.bind (gd t38_24 false (fa 1 t41_27)) fun t42_28 =>
 M.bind (gd t38_24 false (fa 2 t42_28)) fun t43_29 =>
 M.bind (gd t38_24 false (ld none false t43_29)) fun t44_30 =>
 M.bind (gd t38_24 false (M.pure (strip t10_0))) fun t45_31 =>
 M.bind (gd t38_24 false (bi .sub .none t44_30 t45_31)) fun t46_32 =>
 M.bind (gd t38_24 false (bi .gtr .none t39_25 t46_32)) fun t47_33 =>
 M.bind (gd t30_16 true (pick t38_24 (.bool true) t47_33)) fun t48_34 =>
 M.bind (gd (strip t23_10) false (pick t30_16 t48_34 (.bool false))) fun t49_35 =>
 M.bind (pick (strip t23_10) (.bool true) t49_35) fun t50_36 =>
 condM t50_36
 (M.pure (.tup [(.int .u64 0), (.bool false)]))
 (M.bind (C u0r [(strip (strip a0)), (strip (strip a1))]) fun t53_37 =>
 resT t10_0 (M.pure (.tup [t10_0, (.bool true)])))) := by
 rw [C, u12 _ _ rfl]; kernel_rfl
theorem u1t (a0 : PV) : C u0g [a0] =
 trunc (M.bind (C u01 [(strip (strip a0))]) fun t4_0 =>
 condM t4_0
 (M.pure (.int .u64 0))
 (M.bind (nc P (strip a0)) fun t6_1 =>
 M.bind (fa 5 t6_1) fun t7_2 =>
 M.bind (ld none false t7_2) fun t8_3 =>
 M.bind (lnL t8_3) fun t9_4 =>
 M.bind (cv (.int .u64) true t9_4) fun t10_5 =>
 resT t10_5 (M.pure t10_5))) := by
 rw [C, u12 _ _ rfl]; kernel_rfl
theorem u2v (a0 : PV) : C u11 [a0] =
 trunc (M.bind (al [(.bool false), (.int .u64 0), (.int .u64 0), (.bool false)]) fun t2_0 =>
 M.bind (C u01 [(strip (strip a0))]) fun t5_1 =>
 condM t5_1
 (M.bind (bd [(.bool false), (.int .u64 0), (.int .u64 0), (.bool false)] []) fun t6_2 =>
 M.bind (st 4 true t2_0 t6_2) fun _ =>
 M.bind (ld (some 4) true t2_0) fun t0_4 => guardM (!isTup t0_4) (M.pure t0_4))
 (M.bind (nc P (strip a0)) fun t8_5 =>
 M.bind (fa 1 t8_5) fun t9_6 =>
 M.bind (ld (some 4) true t9_6) fun t10_7 =>
 M.bind (al [(.bool false), (.int .u64 0), (.int .u64 0), (.bool false)]) fun t3_8 =>
 M.bind (st 4 true t3_8 t10_7) fun _ =>
 M.bind (C u0g [(strip (strip a0))]) fun t12_10 =>
 M.bind (fa 1 t3_8) fun t13_11 =>
 M.bind (st 1 true t13_11 t12_10) fun _ =>
 M.bind (ld (some 4) true t3_8) fun t14_13 =>
 M.bind (st 4 true t2_0 t14_13) fun _ =>
 M.bind (ld (some 4) true t2_0) fun t0_15 => guardM (!isTup t0_15) (M.pure t0_15))) := by
 rw [C, u12 _ _ rfl]; kernel_rfl
end Go.Proofs.YtjcffopjohkmaaaDoor.Pi.Q
namespace Go.Proofs.YtjcffopjohkmaaaDoor.Pi.Q
open Go Go.Proofs.YtjcffopjohkmaaaDoor.Pi
noncomputable def u2a (v0 v1 v6 v20 v21 v22 : PV) : M PV := atP P X u0d [1, 1, 0, 1, 0] (mkEnv 36 0 [(0, v0), (1, v1), (6, v6), (20, v20), (21, v21), (22, v22)])
theorem u35 (a0 a1 a2 : PV) : C u0d [a0, a1, a2] =
 trunc (M.bind (C u01 [(strip (strip a0))]) fun t11_0 =>
 condM t11_0
 (M.pure (.int .i64 7))
 (M.bind (lnL (strip a2)) fun t16_1 =>
 M.bind (cv (.int .u64) true t16_1) fun t17_2 =>
 M.bind (C u0q [(strip (strip a0)), (strip (strip a1)), (strip t17_2)]) fun t18_3 =>
 M.bind (un .not t18_3) fun t19_4 =>
 condM t19_4
 (M.pure (.int .i64 210))
 (M.bind (lnL (strip a2)) fun t21_5 =>
 u2a a0 a1 (.int .i64 0) (strip a2) t21_5 (.int .i64 0)))) := by
 rw [C, u12 _ _ rfl]; kernel_rfl
theorem u3d (a0 a1 a2 a3 a4 : PV) : C u18 [a0, a1, a2, a3, a4] =
 trunc (M.bind (C u01 [(strip (strip a0))]) fun t13_0 =>
 condM t13_0
 (M.pure (.int .i64 7))
 (M.bind (lnL (strip a2)) fun t18_1 =>
 M.bind (cv (.int .u64) true t18_1) fun t19_2 =>
 M.bind (C ucp [(strip (strip a3)), (strip (strip a4)), (strip t19_2)]) fun t20_3 =>
 M.bind (un .not t20_3) fun t21_4 =>
 condM t21_4
 (M.pure (.int .i64 210))
 (M.bind (bi .add .none (strip a3) (strip a4)) fun t28_5 =>
 M.bind (slL 1 (strip a2) (some (strip a3)) (some t28_5)) fun t29_6 =>
 M.bind (C u0d [(strip (strip a0)), (strip (strip a1)), (strip t29_6)]) fun t30_7 =>
 resT t30_7 (M.pure t30_7)))) := by
 rw [C, u12 _ _ rfl]; kernel_rfl
theorem u1v (a0 a1 a2 a3 a4 : PV) : C u0m [a0, a1, a2, a3, a4] =
 trunc (M.bind (C u01 [(strip (strip a0))]) fun t14_0 =>
 M.bind (gd (strip t14_0) false (M.pure (strip a2))) fun t16_1 =>
 M.bind (gd (strip t14_0) false (C u01 [(strip t16_1)])) fun t17_2 =>
 M.bind (pick (strip t14_0) (.bool true) t17_2) fun t18_3 =>
 condM t18_3
 (M.pure (.int .i64 7))
 (M.bind (C u0l [(strip (strip a2)), (strip (strip a3)), (strip (strip a4))]) fun t23_4 =>
 M.bind (ex 0 t23_4) fun t24_5 =>
 M.bind (ex 1 (tupDrop 0 t23_4)) fun t25_6 =>
 M.bind (bi .neq .none (strip t25_6) (.int .i64 0)) fun t27_7 =>
 condM t27_7
 (resT t25_6 (M.pure t25_6))
 (M.bind (C u0d [(strip (strip a0)), (strip (strip a1)), (strip (strip t24_5))]) fun t32_8 =>
 resT t32_8 (M.pure t32_8)))) := by
 rw [C, u12 _ _ rfl]; kernel_rfl
noncomputable def u0i (v0 v4 v5 : PV) : M PV := atP P X u0r [1, 0] (mkEnv 18 0 [(0, v0), (4, v4), (5, v5)])
theorem u19 (v0 v4 v5 : PV) : u0i v0 v4 v5 =
 M.bind (bi .lss .none v5 v4) fun t6_0 =>
 condM t6_0
 (M.bind (nc P (strip v0)) fun t9_1 =>
 M.bind (fa 5 t9_1) fun t10_2 =>
 M.bind (ld none true t10_2) fun t11_3 =>
 M.bind (alZ P 70) fun t12_4 =>
 M.bind (bsL 1 [t12_4]) fun t13_5 =>
 M.bind (apL true none 1 8 true t11_3 t13_5) fun t14_6 =>
 M.bind (nc P (strip v0)) fun t15_7 =>
 M.bind (fa 5 t15_7) fun t16_8 =>
 M.bind (stG true 1 true t16_8 t14_6) fun _ =>
 M.bind (bi .add .none v5 (.int .u64 1)) fun t17_10 =>
 u0i v0 v4 (strip t17_10))
 (M.pure (.tup [])) :=
 (uj1 P X _ _ _).trans (by kernel_rfl)
theorem u42 (a0 a1 : PV) : C u0r [a0, a1] =
 truncE (u0i a0 (strip a1) (.int .u64 0)) := by
 rw [C, u12 _ _ rfl]; kernel_rfl
theorem u14 (a0 : PV) : C u01 [a0] =
 trunc (M.bind (bi .eql .ptr (strip a0) .nil) fun t4_0 =>
 M.bind (gd (strip t4_0) false (M.pure (strip a0))) fun t6_1 =>
 M.bind (gd (strip t4_0) false (nc P t6_1)) fun t7_2 =>
 M.bind (gd (strip t4_0) false (fa 0 t7_2)) fun t8_3 =>
 M.bind (gd (strip t4_0) false (ld none false t8_3)) fun t9_4 =>
 M.bind (gd (strip t4_0) false (un .not t9_4)) fun t10_5 =>
 M.bind (pick (strip t4_0) (.bool true) t10_5) fun t11_6 =>
 resT t11_6 (M.pure t11_6)) := by
 rw [C, u12 _ _ rfl]; kernel_rfl
end Go.Proofs.YtjcffopjohkmaaaDoor.Pi.Q
namespace Go.Proofs.YtjcffopjohkmaaaDoor.Pi.Q
open Go Go.Proofs.YtjcffopjohkmaaaDoor.Pi
attribute [local congr] ite_congr
def page (D : Nat → UInt8) (i : Nat) : List PV := (List.range 65536).map fun j => byt (D (65536 * i + j))
theorem ucv (D : Nat → UInt8) (i : Nat) : (page D i).length = 65536 := by simp [page]
theorem uk8 {D : Nat → UInt8} {i j : Nat} (h : j < 65536) : (page D i)[j]? = some (byt (D (65536 * i + j))) := by simp [page, h]
def upd (D : Nat → UInt8) (n : Nat) (x : UInt8) : Nat → UInt8 := fun k => if k = n then x else D k
theorem ufx {D : Nat → UInt8} {n i : Nat} {x : UInt8} (h : i ≠ n / 65536) : page (upd D n x) i = page D i := by
  unfold page
  apply List.map_congr_left
  intro j hj
  have hj := List.mem_range.mp hj
  unfold upd
  rw [if_neg (by omega)]
structure MemOk (K : Heap) (c : Nat) (l0 : Bool) (mn mx : Int) (hx : Bool) (pgs : List Nat) (D : Nat → UInt8) : Prop where
  lt : ∀ g ∈ pgs, c < g
  c : ∃ pv, hget K c = some (.cells [.bool true, .bool l0, .int .u64 mn, .int .u64 mx, .bool hx, pv]) ∧ ((pgs = [] ∧ pv = .slice false true 0 []) ∨ ∃ k, pv = .win k 0 1 pgs.length ∧ (pgs ≠ [] ∧ c < k) ∧ hget K k = some (.cells (pgs.map fun i => .ptr i 0)))
  p : ∀ (i g : Nat), pgs[i]? = some g → hget K g = some (.cells (page D i))
  nd : pgs.Nodup
  z : ∀ i, 65536 * pgs.length ≤ i → D i = 0
variable {K : Heap} {c : Nat} {l0 hx : Bool} {mn mx : Int} {pgs : List Nat} {D : Nat → UInt8}
theorem uky (h : MemOk K c l0 mn mx hx pgs D) : run (C u01 [.ptr c 0]) K = some (.ok (.bool false) K) := by
  obtain ⟨pv, hc, _⟩ := h.c
  rw [u14]
  simp +contextual -dsimp (disch := omega) only [↓goDown, goUp, cr, simprocAttr, hc, uh1, ucx, Bool.not_true, Bool.not_false]
end Go.Proofs.YtjcffopjohkmaaaDoor.Pi.Q
namespace Go.Proofs.YtjcffopjohkmaaaDoor.Pi.Q
open Go Go.Proofs.YtjcffopjohkmaaaDoor.Pi
noncomputable def tr (n : Nat) : List Value := Nat.rec [Value.int .u8 0, Value.int .u8 0, Value.int .u8 0, Value.int .u8 0, Value.int .u8 0, Value.int .u8 0, Value.int .u8 0, Value.int .u8 0, Value.int .u8 0, Value.int .u8 0, Value.int .u8 0, Value.int .u8 0, Value.int .u8 0, Value.int .u8 0, Value.int .u8 0, Value.int .u8 0, Value.int .u8 0, Value.int .u8 0, Value.int .u8 0, Value.int .u8 0, Value.int .u8 0, Value.int .u8 0, Value.int .u8 0, Value.int .u8 0, Value.int .u8 0, Value.int .u8 0, Value.int .u8 0, Value.int .u8 0, Value.int .u8 0, Value.int .u8 0, Value.int .u8 0, Value.int .u8 0, Value.int .u8 0, Value.int .u8 0, Value.int .u8 0, Value.int .u8 0, Value.int .u8 0, Value.int .u8 0, Value.int .u8 0, Value.int .u8 0, Value.int .u8 0, Value.int .u8 0, Value.int .u8 0, Value.int .u8 0, Value.int .u8 0, Value.int .u8 0, Value.int .u8 0, Value.int .u8 0, Value.int .u8 0, Value.int .u8 0, Value.int .u8 0, Value.int .u8 0, Value.int .u8 0, Value.int .u8 0, Value.int .u8 0, Value.int .u8 0, Value.int .u8 0, Value.int .u8 0, Value.int .u8 0, Value.int .u8 0, Value.int .u8 0, Value.int .u8 0, Value.int .u8 0, Value.int .u8 0] (fun _ l => List.append l l) n
theorem tr_is : ∀ n, tr n = List.replicate (64 * 2 ^ n) (Value.int .u8 0)
  | 0 => rfl
  | n + 1 => by
    show tr n ++ tr n = _
    rw [tr_is n, List.replicate_append_replicate, Nat.pow_succ]
    congr 1
    omega
theorem uih : (P.info? k_PAGE).bind (·.zero) = some (.agg (tr 10).toArray) := by kernel_rfl
theorem u40 : ∀ n, ofVs (List.replicate n (Value.int .u8 0)) = some (List.replicate n (PV.int .u8 0))
  | 0 => rfl
  | n + 1 => by
    rw [List.replicate_succ, ofVs, u40 n]
    rfl
theorem uhe {i : Nat} : page (fun _ => 0) i = List.replicate 65536 (PV.int .u8 0) := by
  unfold page
  rw [show (fun j => byt ((fun _ => (0 : UInt8)) (65536 * i + j))) = fun _ => PV.int .u8 0 from rfl, List.map_const', List.length_range]
theorem uj8 {K : Heap} : run (alZ P k_PAGE) K = some (.ok (.ptr K.length 0) (hadd K [.cells (List.replicate 65536 (PV.int .u8 0))])) := by
  rw [ule uih, tr_is 10]
  have e : (64 * 2 ^ 10) = 65536 := by decide
  rw [e]
  generalize 65536 = n
  have : ofV (.agg (List.replicate n (Value.int .u8 0)).toArray) = .agg (List.replicate n (PV.int .u8 0)) := by
    show (match ofVs (List.replicate n (Value.int .u8 0)).toArray.toList with | some l => PV.agg l | none => .undef) = _
    rw [List.toList_toArray, u40]
  rw [this]
  have hc : okC (PV.agg (List.replicate n (PV.int .u8 0))).cells = List.replicate n (PV.int .u8 0) := by
    show okC (List.replicate n (PV.int .u8 0)) = _
    unfold okC
    rw [show (List.replicate n (PV.int .u8 0)).all isCell = true from by
      rw [List.all_replicate]; simp [isCell]]
    rfl
  rw [hc]
end Go.Proofs.YtjcffopjohkmaaaDoor.Pi.Q
namespace Go.Proofs.YtjcffopjohkmaaaDoor.Pi.Q
open Go Go.Proofs.YtjcffopjohkmaaaDoor.Pi
attribute [local congr] ite_congr
variable {K : Heap} {c : Nat} {l0 hx : Bool} {mn mx : Int} {pgs : List Nat} {D : Nat → UInt8}
theorem uhi {l : List Nat} (h : l.Nodup) {i j x : Nat} (hi : l[i]? = some x) (hj : l[j]? = some x) : i = j := by
  exact (List.getElem?_inj (List.getElem?_eq_some_iff.mp hi).1 h).mp (hi.trans hj.symm)
theorem nsM {p : Nat} : ((p + 1 : Nat) : Int) = (p : Int) + 1 := rfl
theorem irr {p : Int} : (p < p) = False := eq_false (Int.lt_irrefl p)
theorem MemOk.ne (h : MemOk K c l0 mn mx hx pgs D) {i g : Nat} (hg : pgs[i]? = some g) : g ≠ c := by
  intro e
  subst e
  obtain ⟨pv, hc, _⟩ := h.c
  have := h.p i g hg
  rw [hc] at this
  have h2 := congrArg (fun b : Option Box => match b with | some (.cells cs) => cs.length | _ => 0) this
  simp [ucv] at h2
theorem MemOk.nk (h : MemOk K c l0 mn mx hx pgs D) {i g k : Nat} (hg : pgs[i]? = some g) (hn : pgs ≠ []) (hk : hget K k = some (.cells (pgs.map fun i => .ptr i 0))) : g ≠ k := by
  intro e
  subst e
  have := h.p i g hg
  rw [hk] at this
  cases pgs with
  | nil => exact hn rfl
  | cons a r =>
    simp only [Option.some.injEq, Box.cells.injEq, List.map_cons] at this
    have h0 := congrArg (fun l : List PV => l[0]?) this
    simp only [List.getElem?_cons_zero] at h0
    rw [uk8 (by omega)] at h0
    cases h0
theorem MemOk.put (h : MemOk K c l0 mn mx hx pgs D) {n g : Nat} {x : UInt8} (hn : pgs[n / 65536]? = some g) : MemOk (hset K g (.cells (page (upd D n x) (n / 65536)))) c l0 mn mx hx pgs (upd D n x) := by
  have hlt := (List.getElem?_eq_some_iff.mp hn).1
  refine ⟨h.lt, ?_, fun i q hq => ?_, h.nd, fun i hi => ?_⟩
  · obtain ⟨pv, hc, hpv⟩ := h.c
    refine ⟨pv, by rw [u16 (h.ne hn)]; exact hc, hpv.imp id fun ⟨k, h1, h2, h3⟩ => ⟨k, h1, h2, by rw [u16 (h.nk hn h2.1 h3)]; exact h3⟩⟩
  · by_cases e : q = g
    · subst e
      have := uhi h.nd hq hn
      subst this
      exact u7c (get_lt (h.p _ _ hn))
    · rw [u16 (fun h => e h.symm), h.p i q hq, ufx (fun e' => by subst e'; rw [hn] at hq; exact e (Option.some.inj hq).symm)]
  · unfold upd
    rw [if_neg (by omega)]
    exact h.z i hi
def Same (pgs : List Nat) (K K' : Heap) : Prop := List.length K' = List.length K ∧ ∀ q, q ∉ pgs → hget K' q = hget K q
theorem Same.refl : Same pgs K K := ⟨rfl, fun _ _ => rfl⟩
theorem Same.trans {K1 K2 : Heap} (h : Same pgs K K1) (k : Same pgs K1 K2) : Same pgs K K2 := ⟨k.1.trans h.1, fun q hq => (k.2 q hq).trans (h.2 q hq)⟩
theorem Same.set {g : Nat} {b : Box} {i : Nat} (hg : pgs[i]? = some g) : Same pgs K (hset K g b) := ⟨u2g, fun q hq => u16 (fun e => hq (e ▸ List.mem_of_getElem? hg))⟩
def rd (D : Nat → UInt8) (at_ n : Nat) : List UInt8 := (List.range n).map fun i => D (at_ + i)
end Go.Proofs.YtjcffopjohkmaaaDoor.Pi.Q
namespace Go.Proofs.YtjcffopjohkmaaaDoor.Pi.Q
open Go Go.Proofs.YtjcffopjohkmaaaDoor.Pi
attribute [local congr] ite_congr
variable {K : Heap} {c : Nat} {l0 hx : Bool} {mn mx : Int} {pgs : List Nat} {D : Nat → UInt8}
def fl (D : Nat → UInt8) (at_ n : Nat) (x : UInt8) (j : Nat) : Nat → UInt8 := fun k => if at_ + j ≤ k ∧ k < at_ + n then x else D k
end Go.Proofs.YtjcffopjohkmaaaDoor.Pi.Q
namespace Go.Proofs.YtjcffopjohkmaaaDoor.Pi.Q
open Go Go.Proofs.YtjcffopjohkmaaaDoor.Pi
attribute [local congr] ite_congr
variable {K : Heap} {c : Nat} {l0 hx : Bool} {mn mx : Int} {pgs : List Nat} {D : Nat → UInt8}
theorem MemOk.low (h : MemOk K c l0 mn mx hx pgs D) {g : Nat} (hg : g ∈ pgs) : g < K.length := by
  obtain ⟨i, hi⟩ := List.getElem?_of_mem hg
  exact get_lt (h.p i g hi)
theorem ul1 (h : MemOk K c l0 mn mx hx pgs D) (hp : pgs.length < 64) {b : Box} :
    ∃ pv K2, hget K c = some (.cells [.bool true, .bool l0, .int .u64 mn, .int .u64 mx, .bool hx, pv]) ∧ stripC pv = pv ∧ isTup pv = false ∧
      run (apL true none 1 8 true pv (.lit 1 1 [.ptr K.length 0])) (hadd K [b]) = some (.ok (.win (K.length + 1) 0 1 (pgs.length + 1)) K2) ∧
      List.length K2 = K.length + 2 ∧ hget K2 (K.length + 1) = some (.cells ((pgs ++ [K.length]).map fun i => .ptr i 0)) ∧ hget K2 K.length = some b ∧
      ∀ q, q ≤ c ∨ q ∈ pgs → hget K2 q = hget K q := by
  obtain ⟨pv, hc, hpv⟩ := h.c
  have hg : ∀ n, n < 65 → growB 8 n = true := by intro n hn; simp [growB]; omega
  have hL : List.length (hadd K [b]) = K.length + 1 := by rw [u4d]; rfl
  have hcl : c < K.length := get_lt hc
  rcases hpv with ⟨rfl, rfl⟩ | ⟨k, rfl, hk, hk2⟩
  · have e := ulf (H := hadd K [b]) (own := true) (a := none) (sz := 1) (b := 8) (sx := 0) (m := 1) (cs := [PV.ptr K.length 0]) (by decide) (hg 1 (by omega))
    rw [hL, u7a] at e
    refine ⟨_, hadd K [b, .cells [PV.ptr K.length 0]], hc, rfl, rfl, e, by rw [u4d]; rfl, ?_, ?_, fun q hq => ?_⟩
    · rw [u56]; rfl
    · rw [u5w]; rfl
    · rcases hq with hq | hq
      · rw [u3g (by omega)]
      · cases hq
  · have hkl := get_lt hk2
    have e1 : hget (hadd K [b]) k = some (.cells (pgs.map fun i => .ptr i 0)) := by rw [u3g hkl, hk2]
    have e := ukn (own := true) (a := none) (nw := true) (sz := 1) (b := 8) (n0 := pgs.length) (m := 1) (cs := [PV.ptr K.length 0]) e1 (by simp) (hg _ (by omega))
    rw [hL, u9s hkl, u7a, Nat.mul_one, List.take_of_length_le (by simp)] at e
    refine ⟨_, hadd (hset K k .dead) [b, .cells (pgs.map (fun i => PV.ptr i 0) ++ [PV.ptr K.length 0])], hc, rfl, rfl, e, by rw [u4d, u2g]; rfl, ?_, ?_, fun q hq => ?_⟩
    · rw [u4n, List.map_append]; rfl
    · rw [u4v]; rfl
    · have h1 : q < K.length := by
        rcases hq with hq | hq
        · omega
        · exact h.low hq
      have h2 : k ≠ q := by
        rcases hq with hq | hq
        · omega
        · obtain ⟨i, hi⟩ := List.getElem?_of_mem hq
          exact fun e => h.nk hi hk.1 hk2 e.symm
      rw [u5t h1, u16 h2]
theorem uf3 {n : Nat} (hn64 : n ≤ 64) : ∀ (m j : Nat) (K : Heap) (pgs : List Nat), j + m = n → pgs.length + m ≤ 64 → MemOk K c l0 mn mx hx pgs D →
    ∃ K' qs, run (u0i (.ptr c 0) (.int .u64 n) (.int .u64 j)) K = some (.ok (.tup []) K') ∧ MemOk K' c l0 mn mx hx (pgs ++ qs) D ∧ List.length qs = m ∧ K.length ≤ List.length K' ∧ (∀ q, q < c → hget K' q = hget K q) ∧ (m = 0 → K' = K)
  | 0, j, K, pgs, h, hl, hm => by
    have hj : j = n := by omega
    subst hj
    refine ⟨K, [], ?_, by rw [List.append_nil]; exact hm, rfl, Nat.le_refl _, fun _ _ => rfl, fun _ => rfl⟩
    rw [u19]
    simp +contextual -dsimp (disch := omega) only [↓goDown, goUp, cr, simprocAttr, irr]
  | m + 1, j, K, pgs, h, hl, hm => by
    have hj : j < n := by omega
    obtain ⟨Z, hZ⟩ : ∃ Z, Z = List.replicate 65536 (PV.int .u8 0) := ⟨_, rfl⟩
    obtain ⟨pv, K2, hc, hs, ht, ha, hL, hk', hg, hq⟩ := ul1 hm (by omega) (b := .cells Z)
    have hcl := get_lt hc
    have hc2 : hget K2 c = some (.cells [.bool true, .bool l0, .int .u64 mn, .int .u64 mx, .bool hx, pv]) := by rw [hq c (Or.inl (Nat.le_refl _)), hc]
    have hst := ul8 (m := 1) (mv := true) (o := 5) (v := .win (K.length + 1) 0 1 (pgs.length + 1)) hc2 rfl (Nat.le_refl 6) rfl
    have e3 : fillAt 5 (if true = true then (PV.win (K.length + 1) 0 1 (pgs.length + 1)).cells else (PV.win (K.length + 1) 0 1 (pgs.length + 1)).cells.map stripC) [.bool true, .bool l0, .int .u64 mn, .int .u64 mx, .bool hx, pv] = [.bool true, .bool l0, .int .u64 mn, .int .u64 mx, .bool hx, .win (K.length + 1) 0 1 (pgs.length + 1)] := rfl
    rw [e3] at hst
    have hm3 : MemOk (hset K2 c (.cells [.bool true, .bool l0, .int .u64 mn, .int .u64 mx, .bool hx, .win (K.length + 1) 0 1 (pgs.length + 1)])) c l0 mn mx hx (pgs ++ [K.length]) D := by
      have hlp : (pgs ++ [K.length]).length = pgs.length + 1 := by simp
      refine ⟨fun g hg => ?_, ⟨_, u7c (by omega), Or.inr ⟨K.length + 1, by rw [hlp], ⟨by simp, by omega⟩, by rw [u16 (by omega), hk']⟩⟩, fun i g hi => ?_, ?_, fun i hi => hm.z i (by omega)⟩
      · rcases List.mem_append.mp hg with hg | hg
        · exact hm.lt g hg
        · rw [List.mem_singleton.mp hg]; exact hcl
      · rw [List.getElem?_append] at hi
        split at hi
        · have hne := hm.ne hi
          rw [u16 (fun e => hne e.symm), hq g (Or.inr (List.mem_of_getElem? hi)), hm.p i g hi]
        · rename_i hni
          have hi0 : i = pgs.length := by
            have := (List.getElem?_eq_some_iff.mp hi).1
            simp at this
            omega
          subst hi0
          rw [Nat.sub_self] at hi
          have hi : g = K.length := (Option.some.inj hi).symm
          subst hi
          rw [u16 (by omega), hg, hZ, ← uhe (i := pgs.length)]
          congr 2
          unfold page
          apply List.map_congr_left
          intro k hk
          rw [hm.z (65536 * pgs.length + k) (by omega)]
      · rw [List.nodup_append]
        refine ⟨hm.nd, by simp, fun a ha b hb => ?_⟩
        rw [List.mem_singleton.mp hb]
        have := hm.low ha
        omega
    obtain ⟨K', qs, h1, h2, h3, h4, h5, h6⟩ := uf3 hn64 m (j + 1) _ _ (by omega) (by simp; omega) hm3
    rw [List.append_assoc] at h2
    rw [u2g] at h4
    refine ⟨K', K.length :: qs, ?_, h2, by simp [h3], by omega, fun q hq' => ?_, fun h => by cases h⟩
    · rw [← h1, u19]
      have c1 : ((j : Int) < n) = True := eq_true (by omega)
      have hss : hset K c (.cells [.bool true, .bool l0, .int .u64 mn, .int .u64 mx, .bool hx, pv]) = K := ujw hc
      have hld : run (ld none true (.ptr c 5)) K = some (.ok pv K) := by
        rw [run_ld, hc, ldB_t]
        show some (Out.ok pv (hset K c (.cells [.bool true, .bool l0, .int .u64 mn, .int .u64 mx, .bool hx, stripC pv]))) = _
        rw [hs, hss]
      have hbs : run (bsL 1 [.ptr K.length 0]) (hadd K [.cells Z]) = some (.ok (.lit 1 1 [.ptr K.length 0]) (hadd K [.cells Z])) := ujd rfl
      have hal := uj8 (K := K)
      rw [← hZ] at hal
      simp only [k_PAGE] at hal
      simp +contextual -dsimp (disch := omega) only [↓goDown, goUp, cr, simprocAttr, c1, hld, hal, hbs, ha, hst, nsM]
    · rw [h5 q hq', u16 (by omega), hq q (Or.inl (by omega))]
theorem MemOk.same_len {K' : Heap} {pgs' : List Nat} {D' : Nat → UInt8} (h : MemOk K c l0 mn mx hx pgs D) (h' : MemOk K' c l0 mn mx hx pgs' D') (e : hget K' c = hget K c) : pgs'.length = pgs.length := by
  obtain ⟨pv, hc, hpv⟩ := h.c
  obtain ⟨pv', hc', hpv'⟩ := h'.c
  rw [e, hc] at hc'
  have hc' := Option.some.inj hc'
  injection hc' with hc'
  injection hc' with _ hc'
  injection hc' with _ hc'
  injection hc' with _ hc'
  injection hc' with _ hc'
  injection hc' with _ hc'
  injection hc' with hc' _
  subst hc'
  rcases hpv with ⟨rfl, rfl⟩ | ⟨k, rfl, hk, hk2⟩ <;> rcases hpv' with ⟨rfl, h2⟩ | ⟨k', h2, hk', hk2'⟩
  · rfl
  · cases h2
  · cases h2
  · injection h2 with _ _ _ h2
    exact h2.symm
theorem grown {n : Nat} {K' : Heap} {qs : List Nat} {v : PV} (hm : MemOk K c l0 mn mx hx pgs D) (hm' : MemOk K' c l0 mn mx hx (pgs ++ qs) D) (hq : qs.length = n) (hK : n = 0 → K' = K) :
    u1m K (some (.ok v K')) = some (.ok v K') := by
  by_cases h0 : n = 0
  · rw [hK h0, u2p, hcut, List.take_length, ite_self]
  · refine udc fun e => ?_
    have hcl : c < K.length := by obtain ⟨pv, hc, _⟩ := hm.c; exact get_lt hc
    have e2 : hget K' c = hget K c := by
      have : hget (hcut K' K.length) c = hget K' c := by unfold hcut hget; rw [List.getElem?_take_of_lt hcl]
      rw [← this, e]
    have := hm.same_len hm' e2
    rw [List.length_append] at this
    omega
theorem add_is {n : Nat} (hn : pgs.length + n ≤ 64) (hm : MemOk K c l0 mn mx hx pgs D) :
    ∃ K' qs, run (C u0r [.ptr c 0, .int .u64 n]) K = some (.ok (.tup []) K') ∧ MemOk K' c l0 mn mx hx (pgs ++ qs) D ∧ List.length qs = n ∧ K.length ≤ List.length K' ∧ (∀ q, q < c → hget K' q = hget K q) ∧ (n = 0 → K' = K) := by
  obtain ⟨K', qs, h1, h2, h3, h4, h5, h6⟩ := uf3 (n := n) (by omega) n 0 K pgs (by omega) hn hm
  refine ⟨K', qs, ?_, h2, h3, h4, h5, h6⟩
  have h1 : run (u0i (.ptr c 0) (strip (.int .u64 n)) (.int .u64 0)) K = some (.ok (.tup []) K') := h1
  rw [u42, u24, h1]
  exact grown hm h2 h3 h6
end Go.Proofs.YtjcffopjohkmaaaDoor.Pi.Q
namespace Go.Proofs.YtjcffopjohkmaaaDoor.Pi.Q
open Go Go.Proofs.YtjcffopjohkmaaaDoor.Pi
attribute [local congr] ite_congr
variable {K : Heap} {c : Nat} {l0 hx : Bool} {pgs : List Nat} {D : Nat → UInt8}
theorem new_ok {H : Heap} {mn mx cap : Nat} (hc : cap ≤ 64) (hmx : mx ≤ 18446744073709551615) (h1 : mn ≤ cap) (h2 : ¬ (hx = true ∧ mx < mn)) :
    ∃ c K pgs, run (C u2f [.agg [.bool l0, .int .u64 mn, .int .u64 mx, .bool hx], .int .u64 cap]) H = some (.ok (.tup [.ptr c 0, .int .i64 0]) K) ∧ MemOk K c l0 mn mx hx pgs (fun _ => 0) ∧ pgs.length = mn ∧ H.length ≤ c ∧ H.length ≤ List.length K ∧ (∀ q, q < H.length → hget K q = hget H q) := by
  have c1 : ((cap : Int) < mn) = False := eq_false (by omega)
  have c2 : ((64 : Int) < mn) = False := eq_false (by omega)
  have hm0 : MemOk (hadd H [.cells [.bool l0, .int .u64 mn, .int .u64 mx, .bool hx], .cells [.bool true, .bool l0, .int .u64 mn, .int .u64 mx, .bool hx, .slice false true 0 []]]) (H.length + 1) l0 mn mx hx [] (fun _ => 0) :=
    ⟨fun g hg => (by cases hg), ⟨_, by rw [u56]; rfl, Or.inl ⟨rfl, rfl⟩⟩, fun i g hi => (by simp at hi), List.nodup_nil, fun _ _ => rfl⟩
  obtain ⟨K', qs, a1, a2, a3, a4, a5, a6⟩ := add_is (n := mn) (by simp; omega) hm0
  rw [u4d] at a4
  have a4 : H.length + 2 ≤ List.length K' := a4
  refine ⟨H.length + 1, K', qs, ?_, a2, a3, by omega, by omega, fun q hq => by rw [a5 q (by omega), u3g hq]⟩
  have hlow : u1m H (some (.ok (.tup [.ptr (H.length + 1) 0, .int .i64 0]) K')) = some (.ok (.tup [.ptr (H.length + 1) 0, .int .i64 0]) K') := ud2 (by simp [PV.low, lowL])
  rw [← hlow, u95]
  cases hx
  · simp +contextual -dsimp (disch := omega) only [↓goDown, goUp, cr, simprocAttr, u24, c1, c2, decide_true, decide_false, a1]
  · have c3 : ((mx : Int) < mn) = False := eq_false (fun h => h2 ⟨rfl, by omega⟩)
    simp +contextual -dsimp (disch := omega) only [↓goDown, goUp, cr, simprocAttr, u24, c1, c2, c3, decide_true, decide_false, a1]
end Go.Proofs.YtjcffopjohkmaaaDoor.Pi.Q
namespace Go.Proofs.YtjcffopjohkmaaaDoor.Pi.Q
open Go Go.Proofs.YtjcffopjohkmaaaDoor.Pi
attribute [local congr] ite_congr
variable {K : Heap} {q : Nat} {a : Int}
def zm : Box := .cells [.bool false, .bool false, .int .u64 0, .int .u64 0, .bool false, .slice false true 0 []]
theorem u4k : run (C u01 [.nil]) K = some (.ok (.bool true) K) := by
  rw [u14]
  simp +contextual -dsimp (disch := omega) only [↓goDown, goUp, cr, simprocAttr, ukr]
theorem u3p (h : hget K q = some zm) : run (C u01 [.ptr q 0]) K = some (.ok (.bool true) K) := by
  rw [zm] at h
  rw [u14]
  simp +contextual -dsimp (disch := omega) only [↓goDown, goUp, cr, simprocAttr, h, uh1, ucx, Bool.not_false]
theorem uep : run (C u0g [.nil]) K = some (.ok (.int .u64 0) K) := by
  rw [u1t]
  simp +contextual -dsimp (disch := omega) only [↓goDown, goUp, cr, simprocAttr, u4k]
theorem ul0 (h : hget K q = some zm) : run (C u0g [.ptr q 0]) K = some (.ok (.int .u64 0) K) := by
  have h0 := u3p h
  rw [u1t]
  simp +contextual -dsimp (disch := omega) only [↓goDown, goUp, cr, simprocAttr, h0]
theorem uje : run (C u0y [.nil, .int .i64 40, .int .u64 a, .int .u64 0]) K = some (.ok (.tup [.int .u64 0, .int .i64 7]) K) := by
  have h0 : ∀ K, run (C u01 [.nil]) K = some (.ok (.bool true) K) := fun K => u4k
  rw [u3l]
  simp +contextual -dsimp (disch := omega) only [↓goDown, goUp, cr, simprocAttr, h0]
theorem ujn (h : hget K q = some zm) : run (C u0t [.ptr q 0, .int .i64 54, .int .u64 a, .int .u64 0, .int .u64 1]) K = some (.ok (.int .i64 7) K) := by
  have h0 : ∀ L, run (C u01 [.ptr q 0]) (hadd K L) = some (.ok (.bool true) (hadd K L)) := fun L => u3p (by rw [u3g (get_lt h), h])
  have hlt := get_lt h
  have h1 : (q < K.length + 1) = True := eq_true (by omega)
  rw [u36]
  simp +contextual -dsimp (disch := omega) only [↓goDown, goUp, cr, simprocAttr, h0, h1]
theorem ulh (h : hget K q = some zm) : run (C u0l [.ptr q 0, .int .u64 a, .int .u64 0]) K = some (.ok (.tup [.slice false true 0 [], .int .i64 7]) K) := by
  have h0 := u3p h
  rw [u3c]
  simp +contextual -dsimp (disch := omega) only [↓goDown, goUp, cr, simprocAttr, h0]
theorem uiv : run (C u0n [.nil, .int .u64 1, .int .u64 1]) K = some (.ok (.tup [.int .u64 0, .bool false]) K) := by
  have hg : u1m K (some (.ok (.tup [.int .u64 0, .bool false]) K)) = some (.ok (.tup [.int .u64 0, .bool false]) K) := u7r cut0 rfl
  rw [← hg, u1w]
  simp +contextual -dsimp (disch := omega) only [↓goDown, goUp, cr, simprocAttr, u24, u4k, uep]
theorem ukq (h : hget K q = some zm) : run (C u0n [.ptr q 0, .int .u64 0, .int .u64 1]) K = some (.ok (.tup [.int .u64 0, .bool false]) K) := by
  have h0 := u3p h
  have hs := ul0 h
  have hg : u1m K (some (.ok (.tup [.int .u64 0, .bool false]) K)) = some (.ok (.tup [.int .u64 0, .bool false]) K) := u7r cut0 rfl
  rw [← hg, u1w]
  simp +contextual -dsimp (disch := omega) only [↓goDown, goUp, cr, simprocAttr, u24, h0, hs]
theorem uk6 : run (C u0x [.nil, .int .u64 a, .int .u8 0, .int .u64 0]) K = some (.ok (.int .i64 7) K) := by
  rw [u3b]
  simp +contextual -dsimp (disch := omega) only [↓goDown, goUp, cr, simprocAttr, u4k]
theorem uj9 {v : PV} (h : hget K q = some zm) : run (C u0d [.ptr q 0, .int .u64 a, v]) K = some (.ok (.int .i64 7) K) := by
  have h0 := u3p h
  rw [u35]
  simp +contextual -dsimp (disch := omega) only [↓goDown, goUp, cr, simprocAttr, h0]
theorem uk0 {v : PV} : run (C u18 [.nil, .int .u64 a, v, .int .u64 0, .int .u64 0]) K = some (.ok (.int .i64 7) K) := by
  rw [u3d]
  simp +contextual -dsimp (disch := omega) only [↓goDown, goUp, cr, simprocAttr, u4k]
theorem uiq (h : hget K q = some zm) : run (C u11 [.ptr q 0]) K = some (.ok (.agg [.bool false, .int .u64 0, .int .u64 0, .bool false]) K) := by
  have h0 : ∀ L, run (C u01 [.ptr q 0]) (hadd K L) = some (.ok (.bool true) (hadd K L)) := fun L => u3p (by rw [u3g (get_lt h), h])
  have hlt := get_lt h
  rw [u2v]
  simp +contextual -dsimp (disch := omega) only [↓goDown, goUp, cr, simprocAttr, h0]
theorem copyA {c : Nat} {l0 hx : Bool} {mn mx : Int} {pgs : List Nat} {D : Nat → UInt8} (hm : MemOk K c l0 mn mx hx pgs D) (h : hget K q = some zm) : run (C u0m [.ptr c 0, .int .u64 0, .ptr q 0, .int .u64 0, .int .u64 0]) K = some (.ok (.int .i64 7) K) := by
  have h0 := u3p h
  have h1 := uky hm
  rw [u1v]
  simp +contextual -dsimp (disch := omega) only [↓goDown, goUp, cr, simprocAttr, h0, h1]
theorem copyB {v : PV} (h : hget K q = some zm) : run (C u0m [.ptr q 0, .int .u64 0, v, .int .u64 0, .int .u64 0]) K = some (.ok (.int .i64 7) K) := by
  have h0 := u3p h
  rw [u1v]
  simp +contextual -dsimp (disch := omega) only [↓goDown, goUp, cr, simprocAttr, h0]
theorem ul5 : run (bi .eql (.struct [.bool, .int, .int, .bool]) (.agg [.bool false, .int .u64 0, .int .u64 0, .bool false]) (.agg [.bool false, .int .u64 0, .int .u64 0, .bool false])) K = some (.ok (.bool true) K) := rfl
theorem ulg {H : Heap} {z : Bool} {b : List UInt8} : ∃ K, run (C u0w [.int .u64 a, .slice false z 1 (bytes b)]) H = some (.ok (.bool true) K) := by
  obtain ⟨H1, hH1⟩ : ∃ H1, H1 = hadd H [zm] := ⟨_, rfl⟩
  have hal : run (al [.bool false, .bool false, .int .u64 0, .int .u64 0, .bool false, .slice false true 0 []]) H = some (.ok (.ptr H.length 0) H1) := by
    rw [hH1]
    simp +contextual -dsimp (disch := omega) only [↓goDown, goUp, cr, simprocAttr, zm]
  have h : hget H1 H.length = some zm := by rw [hH1, u5w]; rfl
  obtain ⟨c, K, pgs, hn, hm, hp, hc, hl, hf⟩ := new_ok (H := H1) (l0 := false) (hx := false) (mn := 1) (mx := 0) (cap := 1) (by decide) (by decide) (by decide) (by decide)
  have hn : run (C u2f [.agg [.bool false, .int .u64 1, .int .u64 0, .bool false], .int .u64 1]) H1 = some (.ok (.tup [.ptr c 0, .int .i64 0]) K) := hn
  have hk : hget K H.length = some zm := by rw [hf _ (get_lt h), h]
  have r1 := ulh (a := a) h
  have r2 := ukq h
  have r3 := uiq hk
  have r4 := ujn (a := a) hk
  have r5 := uj9 (a := a) (v := .slice false z 1 (bytes b)) hk
  have r6 := copyA hm hk
  have r7 := copyB (v := .ptr c 0) hk
  obtain ⟨K', hK'⟩ := udd (H := H) (v := .bool true) (K := K)
  refine ⟨K', ?_⟩
  rw [← hK', u2c]
  simp +contextual -dsimp (disch := omega) only [↓goDown, goUp, cr, simprocAttr, u24, hal, uje, r1, uiv, r2, hn, ukw, uep, r3, ul5, r4, uk6, r5, uk0, r6, r7, ucx, Bool.not_false]
theorem zero_true {H : Heap} {z : Bool} {b : List UInt8} : ∃ K, C u0w [.int .u64 a, BS z b] H = some (.ok (.bool true) K) := ulg
end Go.Proofs.YtjcffopjohkmaaaDoor.Pi.Q
namespace Go.Proofs.YtjcffopjohkmaaaDoor.Pi
open Go.ChangeShapes Go.WideShapes
def imOf (w : World) (b o : Nat) : Option Value := w.cell? ⟨b, o, none⟩
theorem imOf_ok (w : World) : ∀ b o v, imOf w b o = some v → w.cell? ⟨b, o, none⟩ = some v := fun _ _ _ h => h
def u3m (zs : List Int) : List UInt8 := zs.map fun n => UInt8.ofNat n.toNat
theorem wf_u8 {n : Int} (h : (Lit.int .u8 n).wf = true) : 0 ≤ n ∧ n < 256 := by
  simp [Lit.wf, IntKind.min, IntKind.max, IntKind.bits, IntKind.signed] at h
  omega
theorem uib {P : Program} {w : World} {base : Nat} {t e : TypeId} {a : Addr} {len cap : Nat} (ht : P.underlying t = some (.slice e)) (h : Value.okWide P w .any base t (.slice (some a) len cap)) : a.spot = none := by
  unfold Value.okWide at h
  simp only [ht] at h
  unfold Cell.okWide at h
  simp only [ht] at h
  unfold Cell.ok at h
  simp only [ht] at h
  exact h.2.2.2.1
theorem open_bytes {H : Type} {enc : TypeId × Value → H} {P : Program} {W : World} {base : Nat} {spare : Nat → Bool} {held : Bool} {t e : TypeId} {v : Value} {d : DataW H} {ps : List MemPlace} {ts : List TypeId} {ds : List (DataW H)} {j : Nat}
    (hsz : (DataW.weightsEach P ts ds).all (· ≤ reachBytes) = true) (htj : ts[j]? = some t) (hd : ds[j]? = some d) (hu : P.underlying t = some (.slice e)) (he : P.underlying e = some (.int .u8)) (hc : P.cellsOf e = 1) (hB : P.bytesOf e = 1)
    (hok : Value.okWide P W .any base t v) {b0 : Nat} (h : DataW.Trod enc P W b0 spare held t v d ps) :
    ∃ z b, b.length ≤ 140737488351232 ∧ Rep io0 (imOf W) (BS z b) v ∧ ∀ x ∈ ps, x.block < W.heap.size := by
  obtain ⟨a, len, cap, rfl⟩ := okWide_slice hu hok
  have k := h
  have lt : ∀ x ∈ ps, x.block < W.heap.size := by obtain ⟨m, hm⟩ := k; exact DataW.trod_lt m _ _ _ hm
  obtain ⟨fuel, hf⟩ := h
  rcases open_ints hu he hc hf with ⟨hcs, _⟩ | ⟨x, l, c, zs, hcs, _, hl, hm, hz, hx, hcell, hwz⟩
  · simp [Value.cells] at hcs
    obtain ⟨rfl, rfl, rfl⟩ := hcs
    exact ⟨true, [], by simp, .flat (.snil 1), lt⟩
  · simp [Value.cells] at hcs
    obtain ⟨rfl, rfl, rfl⟩ := hcs
    have hsp := uib hu hok
    obtain ⟨g, o, sp⟩ := x
    obtain rfl : sp = none := hsp
    have hlz : len ≤ zs.length := by rw [hz]; split <;> omega
    refine ⟨false, u3m (zs.take len), ?_, ?_, lt⟩
    · obtain ⟨hx, _⟩ := Prod.mk.inj hx
      subst hx
      have z := sized_slice hsz htj hd hu
      rw [hB] at z
      have h1 : (lits (H := H) .u8 (zs.take len)).length + (lits (H := H) .u8 (zs.drop len)).length = zs.length := by
        simp [lits]
        omega
      rw [h1] at z
      simp only [u3m, List.length_map, List.length_take]
      have : reachBytes = 140737488351232 := rfl
      omega
    · have hln : (bytes (u3m (zs.take len))).length = len := by simp [bytes, u3m, hlz]
      have hget : ∀ (i : Nat) (x : PV), (bytes (u3m (zs.take len)))[i]? = some x → i < len ∧ x = .int .u8 (zs.getD i 0) := by
        intro i x hx
        have hi : i < len := by
          have := (List.getElem?_eq_some_iff.mp hx).1
          omega
        refine ⟨hi, ?_⟩
        have hiz : i < zs.length := by omega
        have e1 : (bytes (u3m (zs.take len)))[i]? = some (byt (UInt8.ofNat (zs[i]).toNat)) := by
          simp [bytes, u3m, hi, hiz]
        rw [e1] at hx
        obtain rfl := Option.some.inj hx
        have hw := wf_u8 (hwz _ (List.getElem_mem hiz))
        have e2 : zs.getD i 0 = zs[i] := by simp [List.getD, hiz]
        rw [e2]
        unfold byt
        congr 1
        have : (UInt8.ofNat (zs[i]).toNat).toNat = (zs[i]).toNat := by
          rw [UInt8.toNat_ofNat']
          omega
        rw [this]
        omega
      have hadd : ∀ i : Nat, i < len → W.cell? ⟨g, o + i, none⟩ = some (.int .u8 (zs.getD i 0)) := by
        intro i hi
        have := hcell i (by omega)
        unfold Addr.add at this
        split at this
        · rename_i h0
          subst h0
          simpa using this
        · exact this
      have hrep := RepF.slice (im := imOf W) (g := g) (o := o) (cap := cap) (sz := 1) (xs := bytes (u3m (zs.take len))) (fun i _ => .int .u8 (zs.getD i 0)) (.inl rfl) (by omega)
        (fun i x hx => by rw [(hget i x hx).2]; rfl)
        (fun i x j c hx hc => by
          obtain ⟨hi, rfl⟩ := hget i x hx
          have hj : j = 0 := by
            have := (List.getElem?_eq_some_iff.mp hc).1
            simp [PV.cells] at this
            omega
          subst hj
          unfold imOf
          simpa using hadd i hi)
        (fun i x j c hx hc => by
          obtain ⟨hi, rfl⟩ := hget i x hx
          have hj : j = 0 := by
            have := (List.getElem?_eq_some_iff.mp hc).1
            simp [PV.cells] at this
            omega
          subst hj
          simp [PV.cells] at hc
          subst hc
          exact .int _ _)
      rw [hln] at hrep
      exact .flat hrep
end Go.Proofs.YtjcffopjohkmaaaDoor.Pi
