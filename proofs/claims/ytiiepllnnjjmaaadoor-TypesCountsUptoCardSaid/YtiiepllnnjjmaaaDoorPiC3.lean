/- What the law rests on, part 4 of 4: a reading of the program's code over told data, and what it comes to. -/
import Derived.Test.YtiiepllnnjjmaaaDoorPiC2
set_option linter.unusedVariables false
set_option linter.unusedSimpArgs false
set_option maxRecDepth 100000
namespace Go.Proofs.YtiiepllnnjjmaaaDoor.Pi
open Go.ChangeShapes Go.WideShapes
mutual
def bulk {H : Type} : DataW H → Nat
  | .lit (.string bytes) => bytes.length + 1
  | .lit _ => 1
  | .nil => 1
  | .ptr d => bulk d + 1
  | .slice elems spare => bulkL elems + bulkL spare + 1
  | .agg parts => bulkL parts + 1
  | _ => 1
def bulkL {H : Type} : List (DataW H) → Nat
  | [] => 0
  | d :: r => bulk d + bulkL r
end
section
variable {H : Type} {enc : TypeId × Value → H} {P : Program} {W : World} {base : Nat} {spare : Nat → Bool} {held : Bool} {A B : Type} {n : Nat} {t e : TypeId}
structure DecArgs (H : Type) where
  enc : TypeId × Value → H
  P : Program
  W : World
  base : Nat
  spare : Nat → Bool
  held : Bool
variable (G : DecArgs H)
def Dec (n : Nat) (t : TypeId) (cells : A → List PV) (ok : A → Prop) (ms : A → Nat) : Prop :=
  ∀ cs x, DataW.trod G.enc G.P G.W G.base G.spare G.held n t cs = some x → ∃ a, toldD G.P t x.1 = cells a ∧ ok a ∧ ms a ≤ bulk x.1
def DecF (n : Nat) (fs : List Field) (cells : A → List PV) (ok : A → Prop) (ms : A → Nat) : Prop :=
  ∀ (xs : List (DataW H × List MemPlace)), xs.length = fs.length → (∀ (i : Nat) (f : Field), fs[i]? = some f → ∃ cs, DataW.trod G.enc G.P G.W G.base G.spare G.held n f.type cs = xs[i]?) →
    ∃ a, toldF G.P fs (xs.map (·.1)) = cells a ∧ ok a ∧ ms a ≤ bulkL (xs.map (·.1))
variable {G}
theorem dec_int {k : IntKind} (hu : G.P.underlying t = some (.int k)) : Dec G n t (fun m : Int => [.int k m]) (fun m => (Lit.int k m).wf = true) (fun _ => 1) := by
  intro cs x h
  obtain ⟨m, rfl, rfl, hw⟩ := DataW.trod_int hu h
  exact ⟨m, by simp [toldD, litPV], hw, by simp [bulk]⟩
theorem dec_bool (hu : G.P.underlying t = some .bool) : Dec G n t (fun b : Bool => [.bool b]) (fun _ => True) (fun _ => 1) := by
  intro cs x h
  obtain ⟨b, rfl, rfl⟩ := DataW.trod_bool hu h
  exact ⟨b, by simp [toldD, litPV], trivial, by simp [bulk]⟩
theorem decF_nil : DecF G n [] (fun _ : Unit => []) (fun _ => True) (fun _ => 0) := by
  intro xs hl _
  exact ⟨(), by simp [toldF], trivial, Nat.zero_le _⟩
theorem decF_cons {f : Field} {fs : List Field} {cA : A → List PV} {okA : A → Prop} {mA : A → Nat} {cB : B → List PV} {okB : B → Prop} {mB : B → Nat} (ha : Dec G n f.type cA okA mA) (hb : DecF G n fs cB okB mB) :
    DecF G n (f :: fs) (fun p : A × B => cA p.1 ++ cB p.2) (fun p => okA p.1 ∧ okB p.2) (fun p => mA p.1 + mB p.2) := by
  intro xs hl h
  cases xs with
  | nil => simp at hl
  | cons y ys =>
    obtain ⟨cs, h0⟩ := h 0 f rfl
    simp only [List.getElem?_cons_zero] at h0
    obtain ⟨a, a1, a2, a3⟩ := ha _ _ h0
    obtain ⟨b, b1, b2, b3⟩ := hb ys (by simpa using hl) (fun i g hg => by simpa using h (i + 1) g (by simpa using hg))
    exact ⟨(a, b), by simp only [List.map_cons, toldF, a1, b1], ⟨a2, b2⟩, by simp only [List.map_cons, bulkL]; omega⟩
theorem dec_struct {fs : Array Field} {l : List Field} (hu : G.P.underlying t = some (.struct fs)) (hl : fs.toList = l) {cells : A → List PV} {ok : A → Prop} {ms : A → Nat} (h : ∀ m, n = m + 1 → DecF G m l cells ok ms) : Dec G n t cells ok (fun a => ms a + 1) := by
  intro cs x hx
  obtain ⟨xs, m, hm, rfl, hcl, hxl, hxi⟩ := DataW.trod_struct hu hx
  subst hl
  obtain ⟨a, a1, a2, a3⟩ := h m hm xs (by simpa using hxl) (fun i f hf => ⟨_, hxi i f (by simpa using hf)⟩)
  exact ⟨a, by simp only [toldD, hu, a1], a2, by simp only [bulk]; omega⟩
theorem Dec.map {cells : A → List PV} {ok : A → Prop} {ms : A → Nat} (h : Dec G n t cells ok ms) (f : A → B) {cB : B → List PV} {okB : B → Prop} {mB : B → Nat} (hc : ∀ a, cells a = cB (f a)) (ho : ∀ a, ok a → okB (f a)) (hm : ∀ a, mB (f a) ≤ ms a) : Dec G n t cB okB mB := by
  intro cs x hx
  obtain ⟨a, a1, a2, a3⟩ := h cs x hx
  exact ⟨f a, by rw [a1, hc], ho a a2, Nat.le_trans (hm a) a3⟩
def sumL {A : Type} (m : A → Nat) : List A → Nat
  | [] => 0
  | a :: r => m a + sumL m r
theorem ucx {cells : A → List PV} {ok : A → Prop} {ms : A → Nat} (h : Dec G n e cells ok ms) {ec : A → PV} (hec : ∀ a, wrapE G.P e (cells a) = ec a) : ∀ (ys : List (DataW H × List MemPlace)), (∀ y ∈ ys, ∃ cs, DataW.trod G.enc G.P G.W G.base G.spare G.held n e cs = some y) →
    ∃ l : List A, toldE G.P e (ys.map (·.1)) = l.map ec ∧ (∀ a ∈ l, ok a) ∧ sumL ms l ≤ bulkL (ys.map (·.1)) ∧ l.length = ys.length
  | [], _ => ⟨[], by simp [toldE], by simp, by simp [sumL], rfl⟩
  | y :: ys, hy => by
    obtain ⟨cs, h0⟩ := hy y (by simp)
    obtain ⟨a, a1, a2, a3⟩ := h _ _ h0
    obtain ⟨l, l1, l2, l3, l4⟩ := ucx h hec ys (fun z hz => hy z (by simp [hz]))
    refine ⟨a :: l, ?_, ?_, ?_, by simp [l4]⟩
    · simp only [List.map_cons, toldE, a1, hec, l1]
    · intro b hb
      rcases List.mem_cons.mp hb with rfl | hb
      · exact a2
      · exact l2 b hb
    · simp only [List.map_cons, sumL, bulkL]; omega
theorem dec_list {cells : A → List PV} {ok : A → Prop} {ms : A → Nat} (hu : G.P.underlying t = some (.slice e)) (h : ∀ m, n = m + 1 → Dec G m e cells ok ms) {ec : A → PV} (hec : ∀ a, wrapE G.P e (cells a) = ec a) {sz : Nat} (hsz : G.P.cellsOf e = sz) :
    Dec G n t (fun g : GL A => [LZ g.z sz (g.l.map ec)]) (fun g => ∀ a ∈ g.l, ok a) (fun g => sumL ms g.l + 1) := by
  intro cs x hx
  rcases DataW.trod_slice hu hx with ⟨rfl, rfl⟩ | ⟨a, len, cap, elems, rest, m, hm, rfl, rfl, hb, hlc, hcm, hlen, hel, hre, hno⟩
  · exact ⟨⟨true, []⟩, by simp [toldD, hu, LZ], by simp, by simp [bulk, sumL]⟩
  · obtain ⟨l, l1, l2, l3, l4⟩ := ucx (h m hm) hec elems (fun y hy => by
      obtain ⟨i, hi⟩ := List.getElem?_of_mem hy
      have hlt : i < len := by
        have := (List.getElem?_eq_some_iff.mp hi).1
        omega
      have := hel i hlt
      rw [hi, Option.bind_eq_some_iff] at this
      obtain ⟨cs, _, hd⟩ := this
      exact ⟨cs, hd⟩)
    refine ⟨⟨false, l⟩, ?_, l2, by simp only [bulk]; omega⟩
    simp only [toldD, hu, l1, hsz]
    cases l <;> rfl
end
end Go.Proofs.YtiiepllnnjjmaaaDoor.Pi
namespace Go.Proofs.YtiiepllnnjjmaaaDoor.Pi
open Go.ChangeShapes Go.WideShapes
theorem rep_cell {P : Program} {W : World} {base : Nat} {t : TypeId} {d : TypeDesc} {v : Value} {p : PV} (hu : P.underlying t = some d) (hd : ∀ fs, d ≠ .struct fs) (hd2 : ∀ n e, d ≠ .array n e) (hok : Value.okWide P W .any base t v) (ht : ToldOk W v.cells.toList [p]) : Rep [] (imOf W) p v := by
  have hv : v.cells = #[v] := by
    unfold Value.okWide at hok
    rw [hu] at hok
    cases d <;> first | (exact absurd rfl (hd _)) | (exact absurd rfl (hd2 _ _)) | skip
    all_goals (unfold Cell.okWide Cell.ok at hok; simp only [hu] at hok)
    all_goals (cases v <;> first | rfl | (simp at hok; done))
  rw [hv] at ht
  exact .flat ((ht.2 0 p rfl).2 v rfl)
theorem args_nil {im : Nat → Nat → Option Value} : ArgsOk (gOf im) [] #[] := ⟨rfl, fun j p v hp => by simp at hp⟩
theorem args_cons {im : Nat → Nat → Option Value} {p : PV} {v : Value} {ps : List PV} {vs : List Value} (h : Rep [] im p v) (hs : strip p = p) (hr : ArgsOk (gOf im) ps vs.toArray) : ArgsOk (gOf im) (p :: ps) (v :: vs).toArray := by
  refine ⟨by have := hr.size; simp at this ⊢; exact this, fun j q u hq hu => ?_⟩
  cases j with
  | zero =>
    simp at hq hu
    subst hq; subst hu
    exact ⟨.one (.pure h), hs⟩
  | succ j =>
    exact hr.rep j q u (by simpa using hq) (by simpa using hu)
end Go.Proofs.YtiiepllnnjjmaaaDoor.Pi
namespace Go.Proofs.YtiiepllnnjjmaaaDoor.Pi
open Go.ChangeShapes Go.WideShapes
structure ASl where
  z : Bool
  sz : Nat
  xs : List PV
variable {H : Type} {G : DecArgs H} {n : Nat} {t e : TypeId}
end Go.Proofs.YtiiepllnnjjmaaaDoor.Pi
namespace Go.Proofs.YtiiepllnnjjmaaaDoor.Pi.Q
open Go Go.Proofs.YtiiepllnnjjmaaaDoor.Pi
def cs_V (v : VT) : List PV := [.int .i64 v.num, .bool v.nul, .int .i64 v.heap]
def ok_V (v : VT) : Prop := (Lit.int .i64 v.num).wf = true ∧ True ∧ (Lit.int .i64 v.heap).wf = true ∧ True
def ms_V (v : VT) : Nat := 1 + (1 + (1 + (0))) + 1
def cs_F (v : FT) : List PV := [.int .i64 v.ty.num, .bool v.ty.nul, .int .i64 v.ty.heap, .bool v.mu]
def ok_F (v : FT) : Prop := ok_V v.ty ∧ True ∧ True
def ms_F (v : FT) : Nat := ms_V v.ty + (1 + (0)) + 1
structure CG where
  kind : Int
  ps : GL (VT)
  rs : GL (VT)
  fs : GL (FT)
  deriving DecidableEq
def cs_CG (v : CG) : List PV := [.int .i64 v.kind, LZ v.ps.z 3 (v.ps.l.map encV), LZ v.rs.z 3 (v.rs.l.map encV), LZ v.fs.z 4 (v.fs.l.map encF)]
def ok_CG (v : CG) : Prop := (Lit.int .i64 v.kind).wf = true ∧ (∀ a ∈ v.ps.l, ok_V a) ∧ (∀ a ∈ v.rs.l, ok_V a) ∧ (∀ a ∈ v.fs.l, ok_F a) ∧ True
def ms_CG (v : CG) : Nat := 1 + ((sumL (fun a => ms_V a) v.ps.l + 1) + ((sumL (fun a => ms_V a) v.rs.l + 1) + ((sumL (fun a => ms_F a) v.fs.l + 1) + (0)))) + 1
structure SG where
  fin : Bool
  sup : GL (Int)
  comp : CG
  deriving DecidableEq
def cs_SG (v : SG) : List PV := [.bool v.fin, LZ v.sup.z 1 (v.sup.l.map encI), .int .i64 v.comp.kind, LZ v.comp.ps.z 3 (v.comp.ps.l.map encV), LZ v.comp.rs.z 3 (v.comp.rs.l.map encV), LZ v.comp.fs.z 4 (v.comp.fs.l.map encF)]
def ok_SG (v : SG) : Prop := True ∧ (∀ a ∈ v.sup.l, (Lit.int .i64 a).wf = true) ∧ ok_CG v.comp ∧ True
def ms_SG (v : SG) : Nat := 1 + ((sumL (fun a => 1) v.sup.l + 1) + (ms_CG v.comp + (0))) + 1
def encSG (v : SG) : PV := .agg [.bool v.fin, LZ v.sup.z 1 (v.sup.l.map encI), .int .i64 v.comp.kind, LZ v.comp.ps.z 3 (v.comp.ps.l.map encV), LZ v.comp.rs.z 3 (v.comp.rs.l.map encV), LZ v.comp.fs.z 4 (v.comp.fs.l.map encF)]
structure RG where
  types : GL (SG)
  exp : Bool
  deriving DecidableEq
def cs_RG (v : RG) : List PV := [LZ v.types.z 6 (v.types.l.map encSG), .bool v.exp]
def ok_RG (v : RG) : Prop := (∀ a ∈ v.types.l, ok_SG a) ∧ True ∧ True
def ms_RG (v : RG) : Nat := (sumL (fun a => ms_SG a) v.types.l + 1) + (1 + (0)) + 1
def encRG (v : RG) : PV := .agg [LZ v.types.z 6 (v.types.l.map encSG), .bool v.exp]
structure LT where
  wide : Bool
  min : Int
  max : Int
  has : Bool
  deriving DecidableEq
def CG.plain (v : CG) : CT := ⟨v.kind, v.ps.l, v.rs.l, v.fs.l⟩
def SG.plain (v : SG) : ST := ⟨v.fin, v.sup.l, v.comp.plain⟩
def RG.plain (v : RG) : RT := ⟨v.types.l.map SG.plain, v.exp⟩
def CT.gl (v : CT) : CG := ⟨v.kind, ⟨true, v.ps⟩, ⟨true, v.rs⟩, ⟨true, v.fs⟩⟩
def ST.gl (v : ST) : SG := ⟨v.fin, ⟨true, v.sup⟩, v.comp.gl⟩
def RT.gl (v : RT) : RG := ⟨⟨true, v.types.map ST.gl⟩, v.exp⟩
end Go.Proofs.YtiiepllnnjjmaaaDoor.Pi.Q
namespace Go.Proofs.YtiiepllnnjjmaaaDoor.Pi.Q
open Go Go.Proofs.YtiiepllnnjjmaaaDoor.Pi
structure TB where
  elem : VT
  lim : LT
  deriving DecidableEq
structure GO where
  ty : VT
  mu : Bool
  deriving DecidableEq
structure XT where
  kind : Int
  ty : Int
  tab : TB
  mem : LT
  glo : GO
  deriving DecidableEq
structure IM where
  mod : ByteArray
  nm : ByteArray
  ext : XT
  deriving DecidableEq
structure EX where
  nm : ByteArray
  kind : Int
  pl : Int
  deriving DecidableEq
end Go.Proofs.YtiiepllnnjjmaaaDoor.Pi.Q
namespace Go.Proofs.YtiiepllnnjjmaaaDoor.Pi.Q
open Go Go.Proofs.YtiiepllnnjjmaaaDoor.Pi
inductive Like : List SK → List PV → List PV → Prop where
  | nil : Like [] [] []
  | int {k : IntKind} {a b : Int} {ks : List SK} {x y : List PV} (h : Like ks x y) : Like (.int :: ks) (.int k a :: x) (.int k b :: y)
  | bool {a b : Bool} {ks : List SK} {x y : List PV} (h : Like ks x y) : Like (.bool :: ks) (.bool a :: x) (.bool b :: y)
  | str {a b : ByteArray} {ks : List SK} {x y : List PV} (h : Like ks x y) : Like (.str :: ks) (.str a :: x) (.str b :: y)
end Go.Proofs.YtiiepllnnjjmaaaDoor.Pi.Q
namespace Go.Proofs.YtiiepllnnjjmaaaDoor.Pi.Q
open Go Go.Proofs.YtiiepllnnjjmaaaDoor.Pi
def sameV (a b : VT) : Bool := if a.num = 5 ∧ b.num = 5 then decide (a = b) else a.num == b.num
def sameF (a b : FT) : Bool := a.mu == b.mu && sameV a.ty b.ty
def sameZ {α : Type} (f : α → α → Bool) : List α → List α → Bool
  | a :: l, b :: m => f a b && sameZ f l m
  | _, _ => true
def sameL {α : Type} (f : α → α → Bool) (l m : List α) : Bool := (l.length : Int) == (m.length : Int) && sameZ f l m
def sameS (a b : ST) : Bool := a.fin == b.fin && (sameL (fun x y : Int => x == y) a.sup b.sup && (a.comp.kind == b.comp.kind && (sameL sameV a.comp.ps b.comp.ps && (sameL sameV a.comp.rs b.comp.rs && sameL sameF a.comp.fs b.comp.fs))))
theorem um2 {a b : VT} : sameV a b = (a.num == b.num && (!(a.num == 5) || (a.nul == b.nul && a.heap == b.heap))) := by
  obtain ⟨n, t, h⟩ := a
  obtain ⟨m, u, k⟩ := b
  unfold sameV
  simp only [VT.mk.injEq]
  rw [Bool.eq_iff_iff]
  by_cases h1 : n = 5
  · subst h1
    by_cases h2 : m = 5
    · subst h2; simp
    · simp [h2, Ne.symm h2]
  · simp [h1]
theorem u9y {α : Type} {f : α → α → Bool} (hf : ∀ a, f a a = true) : ∀ l, sameZ f l l = true
  | [] => rfl
  | a :: l => by rw [sameZ, hf, u9y hf l]; rfl
theorem u5c {α : Type} {f : α → α → Bool} (hf : ∀ a, f a a = true) (l : List α) : sameL f l l = true := by
  unfold sameL
  rw [u9y hf, beq_self_eq_true]
  rfl
theorem u6t (a : VT) : sameV a a = true := by
  unfold sameV
  split
  · simp
  · simp
theorem ui0 (a : FT) : sameF a a = true := by unfold sameF; rw [u6t, beq_self_eq_true]; rfl
theorem uhw (a : ST) : sameS a a = true := by
  unfold sameS
  rw [u5c (by simp), u5c u6t, u5c u6t, u5c ui0]
  simp
theorem u6l {α : Type} {f : α → α → Bool} {l m : List α} {i : Nat} (hl : i < l.length) (hm : i < m.length) : sameZ f (l.drop i) (m.drop i) = (f l[i] m[i] && sameZ f (l.drop (i + 1)) (m.drop (i + 1))) := by
  rw [List.drop_eq_getElem_cons hl, List.drop_eq_getElem_cons hm, sameZ]
theorem u8j {α : Type} {f : α → α → Bool} {l m : List α} {i : Nat} (hl : l.length ≤ i) : sameZ f (l.drop i) (m.drop i) = true := by
  rw [List.drop_eq_nil_of_le hl]
  unfold sameZ
  rfl
end Go.Proofs.YtiiepllnnjjmaaaDoor.Pi.Q
namespace Go.Proofs.YtiiepllnnjjmaaaDoor.Pi.Q
open Go Go.Proofs.YtiiepllnnjjmaaaDoor.Pi
attribute [local congr] ite_congr
theorem eqlB {H : Heap} {a b : Bool} : run (bi .eql .bool (.bool a) (.bool b)) H = some (.ok (.bool (a == b)) H) := by cases a <;> cases b <;> rfl
theorem neqB {H : Heap} {a b : Bool} : run (bi .neq .bool (.bool a) (.bool b)) H = some (.ok (.bool (a != b)) H) := by cases a <;> cases b <;> rfl
theorem eqlI {H : Heap} {k : IntKind} {a b : Int} : run (bi .eql .none (.int k a) (.int k b)) H = some (.ok (.bool (a == b)) H) := by
  unfold run
  rw [bi_eql]
  rfl
theorem u4d (b : Bool) : ∃ x, b = x := ⟨_, rfl⟩
theorem rSameV {H : Heap} {a b : VT} : run (C u27 [.agg [.int .i64 a.num, .bool a.nul, .int .i64 a.heap], .agg [.int .i64 b.num, .bool b.nul, .int .i64 b.heap]]) H = some (.ok (.bool (sameV a b)) H) := by
  rw [u5n, um2]
  obtain ⟨x1, h1⟩ := u4d (a.num == b.num)
  obtain ⟨x2, h2⟩ := u4d (a.nul == b.nul)
  obtain ⟨x3, h3⟩ := u4d (a.heap == b.heap)
  by_cases h5 : a.num = 5
  · have e5 : (a.num == 5) = true := beq_iff_eq.mpr h5
    have e6 : (a.num != 5) = false := by rw [bne, e5]; rfl
    rw [e5]
    cases x1 <;> cases x2 <;> cases x3 <;>
      simp +contextual -dsimp (disch := omega) only [↓goDown, goUp, cr, simprocAttr, h1, h2, h3, eq_true h5, e5, e6, eqlI, eqlB, Bool.not_true, Bool.false_or, Bool.true_and, Bool.false_and]
  · have e5 : (a.num == 5) = false := beq_false_of_ne h5
    have e6 : (a.num != 5) = true := by rw [bne, e5]; rfl
    rw [e5]
    cases x1 <;>
      simp +contextual -dsimp (disch := omega) only [↓goDown, goUp, cr, simprocAttr, h1, eq_false h5, e5, e6, eqlI, eqlB, Bool.not_false, Bool.true_or, Bool.true_and, Bool.false_and]
theorem uak {H : Heap} {v4 : PV} {z1 z2 : Bool} {l m : List VT} (hl : l.length < 2 ^ 62) (hm : l.length = m.length) : ∀ (k i : Nat), i + k = l.length →
    run (u0s (LZ z1 3 (l.map encV)) (LZ z2 3 (m.map encV)) v4 (.int .i64 i)) H = some (.ok (.bool (sameZ sameV (l.drop i) (m.drop i))) H)
  | 0, i, h => by
    rw [u1v, u8j (by omega)]
    have c1 : ((i : Int) < l.length) = False := eq_false (by omega)
    simp +contextual -dsimp (disch := omega) only [↓goDown, goUp, cr, simprocAttr, strip_Z, ln_Z, List.length_map, c1]
  | k + 1, i, h => by
    have ih := uak (H := H) (v4 := v4) (z1 := z1) (z2 := z2) hl hm k (i + 1) (by omega)
    have hi : i < l.length := by omega
    have hj : i < m.length := by omega
    rw [u1v, u6l hi hj]
    have c1 : ((i : Int) < l.length) = True := eq_true (by omega)
    have hga : (l.map encV)[i]? = some (encV l[i]) := by simp [hi]
    have hgb : (m.map encV)[i]? = some (encV m[i]) := by simp [hj]
    have hia : ∀ K, run (iaS 3 (LZ z1 3 (l.map encV)) (.int .i64 i)) K = some (.ok (.elem [.int .i64 l[i].num, .bool l[i].nul, .int .i64 l[i].heap]) K) := fun K => ia_Z hga
    have hib : ∀ K, run (iaS 3 (LZ z2 3 (m.map encV)) (.int .i64 i)) K = some (.ok (.elem [.int .i64 m[i].num, .bool m[i].nul, .int .i64 m[i].heap]) K) := fun K => ia_Z hgb
    have hs := fun K => rSameV (H := K) (a := l[i]) (b := m[i])
    cases hc : sameV l[i] m[i] with
    | true =>
      rw [hc] at hs
      simp +contextual -dsimp (disch := omega) only [↓goDown, goUp, cr, simprocAttr, c1, strip_Z, ln_Z, List.length_map, hia, hib, hs, un_not, ns]
      exact ih
    | false =>
      rw [hc] at hs
      simp +contextual -dsimp (disch := omega) only [↓goDown, goUp, cr, simprocAttr, c1, strip_Z, ln_Z, List.length_map, hia, hib, hs, un_not, ns]
      all_goals rfl
theorem ug4 {H : Heap} {z1 z2 : Bool} {l m : List VT} (hl : l.length < 2 ^ 62) : run (C u0y [LZ z1 3 (l.map encV), LZ z2 3 (m.map encV)]) H = some (.ok (.bool (sameL sameV l m)) H) := by
  rw [u44]
  unfold sameL
  by_cases h : l.length = m.length
  · have hlp := fun v4 => uak (H := H) (v4 := v4) (z1 := z1) (z2 := z2) hl h l.length 0 (by omega)
    simp only [List.drop_zero, show ((0 : Nat) : Int) = 0 from rfl] at hlp
    have e1 : ((l.length : Int) == (m.length : Int)) = true := by rw [h]; exact beq_self_eq_true _
    have e2 : ((l.length : Int) != (m.length : Int)) = false := by rw [bne, e1]; rfl
    simp +contextual -dsimp (disch := omega) only [↓goDown, goUp, cr, simprocAttr, strip_Z, ln_Z, List.length_map, e1, e2, hlp, Bool.true_and]
  · have e1 : ((l.length : Int) == (m.length : Int)) = false := beq_false_of_ne (by omega)
    have e2 : ((l.length : Int) != (m.length : Int)) = true := by rw [bne, e1]; rfl
    simp +contextual -dsimp (disch := omega) only [↓goDown, goUp, cr, simprocAttr, strip_Z, ln_Z, List.length_map, e1, e2, Bool.false_and]
theorem u7f {H : Heap} {v4 : PV} {z1 z2 : Bool} {l m : List FT} (hl : l.length < 2 ^ 62) (hm : l.length = m.length) : ∀ (k i : Nat), i + k = l.length →
    run (u0p (LZ z1 4 (l.map encF)) (LZ z2 4 (m.map encF)) v4 (.int .i64 i)) H = some (.ok (.bool (sameZ sameF (l.drop i) (m.drop i))) H)
  | 0, i, h => by
    rw [u1q, u8j (by omega)]
    have c1 : ((i : Int) < l.length) = False := eq_false (by omega)
    simp +contextual -dsimp (disch := omega) only [↓goDown, goUp, cr, simprocAttr, strip_Z, ln_Z, List.length_map, c1]
  | k + 1, i, h => by
    have ih := u7f (H := H) (v4 := v4) (z1 := z1) (z2 := z2) hl hm k (i + 1) (by omega)
    have hi : i < l.length := by omega
    have hj : i < m.length := by omega
    rw [u1q, u6l hi hj]
    have c1 : ((i : Int) < l.length) = True := eq_true (by omega)
    have hga : (l.map encF)[i]? = some (encF l[i]) := by simp [hi]
    have hgb : (m.map encF)[i]? = some (encF m[i]) := by simp [hj]
    have hia : ∀ K, run (iaS 4 (LZ z1 4 (l.map encF)) (.int .i64 i)) K = some (.ok (.elem [.int .i64 l[i].ty.num, .bool l[i].ty.nul, .int .i64 l[i].ty.heap, .bool l[i].mu]) K) := fun K => ia_Z hga
    have hib : ∀ K, run (iaS 4 (LZ z2 4 (m.map encF)) (.int .i64 i)) K = some (.ok (.elem [.int .i64 m[i].ty.num, .bool m[i].ty.nul, .int .i64 m[i].ty.heap, .bool m[i].mu]) K) := fun K => ia_Z hgb
    have hs := fun K => rSameV (H := K) (a := l[i].ty) (b := m[i].ty)
    have hsf : sameF l[i] m[i] = (l[i].mu == m[i].mu && sameV l[i].ty m[i].ty) := rfl
    rw [hsf]
    obtain ⟨x1, h1⟩ := u4d (l[i].mu == m[i].mu)
    have h2 : (l[i].mu != m[i].mu) = !x1 := by rw [bne, h1]
    rw [h1]
    cases x1 with
    | false =>
      simp +contextual -dsimp (disch := omega) only [↓goDown, goUp, cr, simprocAttr, c1, strip_Z, ln_Z, List.length_map, hia, hib, hs, un_not, ns, neqB, h1, h2, Bool.not_false, Bool.false_and]
      all_goals rfl
    | true =>
      cases hc : sameV l[i].ty m[i].ty with
      | true =>
        rw [hc] at hs
        simp +contextual -dsimp (disch := omega) only [↓goDown, goUp, cr, simprocAttr, c1, strip_Z, ln_Z, List.length_map, hia, hib, hs, un_not, ns, neqB, h1, h2, Bool.not_true]
        exact ih
      | false =>
        rw [hc] at hs
        simp +contextual -dsimp (disch := omega) only [↓goDown, goUp, cr, simprocAttr, c1, strip_Z, ln_Z, List.length_map, hia, hib, hs, un_not, ns, neqB, h1, h2, Bool.not_true]
        all_goals rfl
theorem uhz {H : Heap} {z1 z2 : Bool} {l m : List FT} (hl : l.length < 2 ^ 62) : run (C u1b [LZ z1 4 (l.map encF), LZ z2 4 (m.map encF)]) H = some (.ok (.bool (sameL sameF l m)) H) := by
  rw [u3w]
  unfold sameL
  by_cases h : l.length = m.length
  · have hlp := fun v4 => u7f (H := H) (v4 := v4) (z1 := z1) (z2 := z2) hl h l.length 0 (by omega)
    simp only [List.drop_zero, show ((0 : Nat) : Int) = 0 from rfl] at hlp
    have e1 : ((l.length : Int) == (m.length : Int)) = true := by rw [h]; exact beq_self_eq_true _
    have e2 : ((l.length : Int) != (m.length : Int)) = false := by rw [bne, e1]; rfl
    simp +contextual -dsimp (disch := omega) only [↓goDown, goUp, cr, simprocAttr, strip_Z, ln_Z, List.length_map, e1, e2, hlp, Bool.true_and]
  · have e1 : ((l.length : Int) == (m.length : Int)) = false := beq_false_of_ne (by omega)
    have e2 : ((l.length : Int) != (m.length : Int)) = true := by rw [bne, e1]; rfl
    simp +contextual -dsimp (disch := omega) only [↓goDown, goUp, cr, simprocAttr, strip_Z, ln_Z, List.length_map, e1, e2, Bool.false_and]
end Go.Proofs.YtiiepllnnjjmaaaDoor.Pi.Q
namespace Go.Proofs.YtiiepllnnjjmaaaDoor.Pi.Q
open Go Go.Proofs.YtiiepllnnjjmaaaDoor.Pi
attribute [local congr] ite_congr
theorem neqI {H : Heap} {k : IntKind} {a b : Int} : run (bi .neq .none (.int k a) (.int k b)) H = some (.ok (.bool (a != b)) H) := by
  unfold run
  rw [bi_neq]
  rfl
theorem u9u {H : Heap} {v4 : PV} {fin fin' : Bool} {sup sup' : List Int} {kind kind' : Int} {ps rs ps' rs' : List VT} {fs fs' : List FT} {y1 y2 y3 y4 x1 x2 x3 x4 : Bool} (h1 : sup.length < 2 ^ 62) (h2 : ps.length < 2 ^ 62) (h3 : rs.length < 2 ^ 62) (h4 : fs.length < 2 ^ 62) (hm : sup.length = sup'.length) : ∀ (m i : Nat), i + m = sup.length →
    run (u0h (.ptr H.length 0) (.ptr (H.length + 1) 0) v4 (.int .i64 i)) (hadd H [.cells [.bool fin, LZ y1 1 (sup.map encI), .int .i64 kind, LZ y2 3 (ps.map encV), LZ y3 3 (rs.map encV), LZ y4 4 (fs.map encF)], .cells [.bool fin', LZ x1 1 (sup'.map encI), .int .i64 kind', LZ x2 3 (ps'.map encV), LZ x3 3 (rs'.map encV), LZ x4 4 (fs'.map encF)]]) =
      some (.ok (.bool (sameZ (fun x y : Int => x == y) (sup.drop i) (sup'.drop i) && (sameL sameV ps ps' && (sameL sameV rs rs' && sameL sameF fs fs')))) (hadd H [.cells [.bool fin, LZ y1 1 (sup.map encI), .int .i64 kind, LZ y2 3 (ps.map encV), LZ y3 3 (rs.map encV), LZ y4 4 (fs.map encF)], .cells [.bool fin', LZ x1 1 (sup'.map encI), .int .i64 kind', LZ x2 3 (ps'.map encV), LZ x3 3 (rs'.map encV), LZ x4 4 (fs'.map encF)]]))
  | 0, i, h => by
    have s1 := fun L z w => ug4 (z1 := z) (z2 := w) (m := ps') (H := hadd H L) h2
    have s2 := fun L z w => ug4 (z1 := z) (z2 := w) (m := rs') (H := hadd H L) h3
    have s3 := fun L z w => uhz (z1 := z) (z2 := w) (m := fs') (H := hadd H L) h4
    rw [u21, u8j (by omega)]
    have c1 : ((i : Int) < sup.length) = False := eq_false (by omega)
    obtain ⟨c4, g4⟩ := u4d (sameL sameV ps ps')
    obtain ⟨c5, g5⟩ := u4d (sameL sameV rs rs')
    rw [g4] at s1
    rw [g5] at s2
    rw [g4, g5]
    cases c4 with
    | false => simp +contextual -dsimp (disch := omega) only [↓goDown, goUp, cr, simprocAttr, strip_Z, ln_Z, List.length_map, c1, u19, u0m, low_Z, u08, u0t, s1, s2, s3, Bool.true_and, Bool.false_and]
    | true =>
      cases c5 with
      | false => simp +contextual -dsimp (disch := omega) only [↓goDown, goUp, cr, simprocAttr, strip_Z, ln_Z, List.length_map, c1, u19, u0m, low_Z, u08, u0t, s1, s2, s3, Bool.true_and, Bool.false_and]
      | true => simp +contextual -dsimp (disch := omega) only [↓goDown, goUp, cr, simprocAttr, strip_Z, ln_Z, List.length_map, c1, u19, u0m, low_Z, u08, u0t, s1, s2, s3, Bool.true_and, Bool.false_and]
  | m + 1, i, h => by
    have ih := u9u (fin := fin) (fin' := fin') (kind := kind) (kind' := kind') (ps' := ps') (rs' := rs') (fs' := fs') (y1 := y1) (y2 := y2) (y3 := y3) (y4 := y4) (x1 := x1) (x2 := x2) (x3 := x3) (x4 := x4) h1 h2 h3 h4 hm (v4 := v4) (H := H) m (i + 1) (by omega)
    have hi : i < sup.length := by omega
    have hj : i < sup'.length := by omega
    rw [u21, u6l hi hj]
    have c1 : ((i : Int) < sup.length) = True := eq_true (by omega)
    have hga : (sup.map encI)[i]? = some (encI sup[i]) := by simp [hi]
    have hgb : (sup'.map encI)[i]? = some (encI sup'[i]) := by simp [hj]
    have hia : ∀ K z, run (iaS 1 (LZ z 1 (sup.map encI)) (.int .i64 i)) K = some (.ok (.elem [.int .i64 sup[i]]) K) := fun K z => ia_Z hga
    have hib : ∀ K z, run (iaS 1 (LZ z 1 (sup'.map encI)) (.int .i64 i)) K = some (.ok (.elem [.int .i64 sup'[i]]) K) := fun K z => ia_Z hgb
    obtain ⟨c, hc⟩ := u4d (sup[i] == sup'[i])
    have hc2 : (sup[i] != sup'[i]) = !c := by rw [bne, hc]
    rw [hc]
    cases c with
    | true =>
      simp +contextual -dsimp (disch := omega) only [↓goDown, goUp, cr, simprocAttr, strip_Z, ln_Z, List.length_map, c1, u19, u0m, low_Z, u08, u0t, hia, hib, neqI, hc2, Bool.not_true, Bool.true_and, ns]
      exact ih
    | false =>
      simp +contextual -dsimp (disch := omega) only [↓goDown, goUp, cr, simprocAttr, strip_Z, ln_Z, List.length_map, c1, u19, u0m, low_Z, u08, u0t, hia, hib, neqI, hc2, Bool.not_false, Bool.false_and, ns]
      all_goals rfl
theorem refSub {H : Heap} {a b : SG} (ha : a.plain.fit) : run (C u1p [.agg (cs_SG a), .agg (cs_SG b)]) H = some (.ok (.bool (sameS a.plain b.plain)) H) := by
  obtain ⟨f1, ⟨y1, sup⟩, ⟨k1, ⟨y2, ps⟩, ⟨y3, rs⟩, ⟨y4, fs⟩⟩⟩ := a
  obtain ⟨f2, ⟨x1, sup'⟩, ⟨k2, ⟨x2, ps'⟩, ⟨x3, rs'⟩, ⟨x4, fs'⟩⟩⟩ := b
  obtain ⟨l1, l2, l3, l4⟩ := ha
  simp only [SG.plain, CG.plain] at l1 l2 l3 l4
  rw [u4a]
  unfold cs_SG sameS sameL
  simp only [SG.plain, CG.plain]
  obtain ⟨c1, h1⟩ := u4d (f1 == f2)
  have h1' : (f1 != f2) = !c1 := by rw [bne, h1]
  obtain ⟨c3, h3⟩ := u4d (k1 == k2)
  have h3' : (k1 != k2) = !c3 := by rw [bne, h3]
  rw [h1, h3]
  cases c1 with
  | false => simp +contextual -dsimp (disch := omega) only [↓goDown, goUp, cr, simprocAttr, neqB, neqI, h1, h1', strip_Z, ln_Z, List.length_map, u19, u0m, low_Z, u08, u0t, Bool.not_false, Bool.false_and]
  | true =>
    by_cases hl : sup.length = sup'.length
    · have e1 : ((sup.length : Int) == (sup'.length : Int)) = true := by rw [hl]; exact beq_self_eq_true _
      have e2 : ((sup.length : Int) != (sup'.length : Int)) = false := by rw [bne, e1]; rfl
      have q1 : ((sup.length : Int) = (sup'.length : Int)) = True := eq_true (by omega)
      cases c3 with
      | false =>
        have q3 : (k1 = k2) = False := eq_false (fun h => by rw [h] at h3; simp at h3)
        simp +contextual -dsimp (disch := omega) only [↓goDown, goUp, cr, simprocAttr, neqB, neqI, h1, h1', h3', e1, e2, q1, q3, strip_Z, ln_Z, List.length_map, u19, u0m, low_Z, u08, u0t, Bool.not_true, Bool.not_false, Bool.true_and, Bool.false_and, Bool.and_false]
      | true =>
        have q3 : (k1 = k2) = True := eq_true (beq_iff_eq.mp h3)
        have hlp : ∀ v4, run (u0h (.ptr H.length 0) (.ptr (H.length + 1) 0) v4 (.int .i64 0)) _ = _ := fun v4 => u9u (H := H) (v4 := v4) (fin := f1) (fin' := f2) (kind := k1) (kind' := k2) (ps' := ps') (rs' := rs') (fs' := fs') (y1 := y1) (y2 := y2) (y3 := y3) (y4 := y4) (x1 := x1) (x2 := x2) (x3 := x3) (x4 := x4) l1 l2 l3 l4 hl sup.length 0 (by omega)
        simp only [List.drop_zero] at hlp
        unfold sameL at hlp
        simp +contextual -dsimp (disch := omega) only [↓goDown, goUp, cr, simprocAttr, neqB, neqI, h1, h1', h3', e1, e2, q1, q3, strip_Z, ln_Z, List.length_map, u19, u0m, low_Z, u08, u0t, hlp, Bool.not_true, Bool.true_and]
    · have e1 : ((sup.length : Int) == (sup'.length : Int)) = false := beq_false_of_ne (by omega)
      have e2 : ((sup.length : Int) != (sup'.length : Int)) = true := by rw [bne, e1]; rfl
      have q1 : ((sup.length : Int) = (sup'.length : Int)) = False := eq_false (by omega)
      simp +contextual -dsimp (disch := omega) only [↓goDown, goUp, cr, simprocAttr, neqB, neqI, h1, h1', h3', e1, e2, q1, strip_Z, ln_Z, List.length_map, u19, u0m, low_Z, u08, u0t, Bool.not_true, Bool.true_and, Bool.false_and]
end Go.Proofs.YtiiepllnnjjmaaaDoor.Pi.Q
namespace Go.Proofs.YtiiepllnnjjmaaaDoor.Pi.Q
open Go Go.Proofs.YtiiepllnnjjmaaaDoor.Pi
attribute [local congr] ite_congr
theorem uhr {H : Heap} : run (C u3v []) H = some (.ok (.agg [.str ⟨#[]⟩, .str ⟨#[105, 51, 50]⟩, .str ⟨#[105, 54, 52]⟩, .str ⟨#[102, 51, 50]⟩, .str ⟨#[102, 54, 52]⟩, .str ⟨#[]⟩, .str ⟨#[105, 56]⟩, .str ⟨#[105, 49, 54]⟩]) H) := by
  rw [u7h]
  simp +contextual -dsimp (disch := omega) only [↓goDown, goUp, cr, simprocAttr]
theorem tabN {H : Heap} : run (ixA 8 1 none (.agg [.str ⟨#[]⟩, .str ⟨#[105, 51, 50]⟩, .str ⟨#[105, 54, 52]⟩, .str ⟨#[102, 51, 50]⟩, .str ⟨#[102, 54, 52]⟩, .str ⟨#[]⟩, .str ⟨#[105, 56]⟩, .str ⟨#[105, 49, 54]⟩]) (.int .i64 1)) H = some (.ok (.str ⟨#[105, 51, 50]⟩) H) := by rfl
theorem umd {H : Heap} : run (C u4n [.agg [.int .i64 1, .bool false, .int .i64 0]]) H = some (.ok (.str ⟨#[105, 51, 50]⟩) H) := by
  rw [ubq]
  simp +contextual -dsimp (disch := omega) only [↓goDown, goUp, cr, simprocAttr, uhr, tabN]
theorem udt {H : Heap} : run (C u2j []) H = some (.ok (.bool true) H) := by
  rw [u4y]
  simp +contextual -dsimp (disch := omega) only [↓goDown, goUp, cr, simprocAttr, umd]
theorem sumLen {α : Type} {m : α → Nat} : ∀ (l : List α), (∀ a ∈ l, 1 ≤ m a) → l.length ≤ sumL m l
  | [], _ => Nat.le_refl _
  | a :: l, h => by
    have h1 := h a (by simp)
    have h2 := sumLen l (fun b hb => h b (by simp [hb]))
    simp only [List.length_cons, sumL]
    omega
theorem sumMem {α : Type} {m : α → Nat} : ∀ (l : List α) (a : α), a ∈ l → m a ≤ sumL m l
  | b :: l, a, h => by
    simp only [sumL]
    rcases List.mem_cons.mp h with rfl | h
    · omega
    · have := sumMem (m := m) l a h
      omega
theorem sgFit {v : SG} (h : ms_SG v ≤ 1048576) : v.plain.fit := by
  have h1 := sumLen (m := fun a => ms_V a) v.comp.ps.l (fun a _ => by unfold ms_V; omega)
  have h2 := sumLen (m := fun a => ms_V a) v.comp.rs.l (fun a _ => by unfold ms_V; omega)
  have h3 := sumLen (m := fun a => ms_F a) v.comp.fs.l (fun a _ => by unfold ms_F; omega)
  have h4 := sumLen (m := fun _ => 1) v.sup.l (fun a _ => Nat.le_refl _)
  unfold ms_SG ms_CG at h
  exact ⟨by show v.sup.l.length < _; omega, by show v.comp.ps.l.length < _; omega, by show v.comp.rs.l.length < _; omega, by show v.comp.fs.l.length < _; omega⟩
end Go.Proofs.YtiiepllnnjjmaaaDoor.Pi.Q
namespace Go.Proofs.YtiiepllnnjjmaaaDoor.Pi.Q
open Go Go.Proofs.YtiiepllnnjjmaaaDoor.Pi
attribute [local congr] ite_congr
theorem cut_le {K : Heap} {L : List Box} {n : Nat} (h : n ≤ K.length) : hcut (hadd K L) n = hcut K n := List.take_append_of_le_length h
theorem ujq {K : Heap} {j n : Nat} {x : Box} : hcut (hset K j x) n = hset (hcut K n) j x := List.take_set
theorem u2y {K : Heap} {j n : Nat} {x : Box} (h : n ≤ j) : hcut (hset K j x) n = hcut K n := by
  rw [ujq]
  exact List.set_eq_of_length_le (by unfold hcut; simp; omega)
theorem u6b {K : Heap} {i j : Nat} {x y : Box} (h : i < j) : hset (hset K j x) i y = hset (hset K i y) j x := List.set_comm _ _ (by omega)
theorem u2w {K : Heap} {i j : Nat} {x : Box} (h : i < j) : hget (hset K i x) j = hget K j := uan (by omega)
theorem u1z {K : Heap} {i j : Nat} {x : Box} (h : j < i) : hget (hset K i x) j = hget K j := uan (by omega)
theorem u6c {K : Heap} {i j : Nat} {x y : Box} (h : j < K.length) : hget (hset (hset K i y) j x) j = some x := u3i (by rw [u12]; exact h)
theorem q1 {K : Heap} {i : Nat} {x : Box} {L : List Box} (h : i < K.length) : hget (hadd (hset K i x) L) i = some x := by rw [u4h h, u3i h]
theorem q2 {K : Heap} {i j : Nat} {x : Box} {L : List Box} (h : j < K.length) (h2 : i < j) : hget (hadd (hset K i x) L) j = hget K j := by rw [u4h h, u2w h2]
theorem q3 {K : Heap} {i j : Nat} {x y : Box} {L : List Box} (h : j < K.length) : hget (hadd (hset (hset K i y) j x) L) j = some x := by rw [u2f (by rw [u12, u12]; exact h), u6c h]
theorem q4 {K : Heap} {i j : Nat} {x : Box} {L : List Box} (h : j < K.length) (h2 : j < i) : hget (hadd (hset K i x) L) j = hget K j := by rw [u4h h, u1z h2]
theorem u6j {K : Heap} {i j : Nat} {x y : Box} {L : List Box} : hget (hadd (hset (hset K i x) j y) L) K.length = nth L 0 := by
  have := u3p (H := hset (hset K i x) j y) (L := L)
  rwa [u12, u12] at this
theorem r2 {K : Heap} {i j : Nat} {x y : Box} {L : List Box} (h : j < K.length) (h2 : i < j) : hset (hadd (hset K i y) L) j x = hadd (hset (hset K i y) j x) L := u5a h
theorem r3 {K : Heap} {j : Nat} {x y : Box} {L : List Box} (h : j < K.length) : hset (hadd (hset K j y) L) j x = hadd (hset K j x) L := by rw [u5a h, set_set]
theorem r4 {K : Heap} {i j : Nat} {x y w : Box} {L : List Box} (h : j < K.length) : hset (hadd (hset (hset K i y) j w) L) j x = hadd (hset (hset K i y) j x) L := by rw [u6q (by rw [u12, u12]; exact h), set_set]
theorem r6 {K : Heap} {i j : Nat} {x y : Box} {L : List Box} (h : i < K.length) (h2 : i < j) : hset (hadd (hset K j x) L) i y = hadd (hset (hset K i y) j x) L := by rw [u5a h, u6b h2]
theorem u35 {sz : Nat} {l : List PV} : shutP sz l = LZ true sz l := by cases l <;> rfl
variable {σ : Type} {bx : σ → Box} {t : σ → Int → σ} {g : Int → Int} {I : σ → Nat → Prop} {f : PV} {c : Nat} {A H : Heap}
structure Turn (c : Nat) (A : Heap) (f : PV) (bx : σ → Box) (t : σ → Int → σ) (g : Int → Int) (I : σ → Nat → Prop) : Prop where
  call : ∀ (K : Heap) (s : σ) (a : Int) (n : Nat), hcut K c = A → hget K c = some (bx s) → I s (n + 1) → run (callV P C f [.int .i64 a]) K = some (.ok (.int .i64 (g a)) (hset K c (bx (t s a))))
  step : ∀ (s : σ) (a : Int) (n : Nat), I s (n + 1) → I (t s a) n
  mono : ∀ (s : σ) (n : Nat), I s (n + 1) → I s n
  st : strip f = f
  sc : stripC f = f
  cl : isCell f = true
  cs : f.cells = [f]
  tup : isTup f = false
  low : ∀ n, c < n → f.low n = true
def gv (g : Int → Int) (v : VT) : VT := if v.num = 5 then ⟨v.num, v.nul, g v.heap⟩ else v
def tv (t : σ → Int → σ) (s : σ) (v : VT) : σ := if v.num = 5 then t s v.heap else s
def gf (g : Int → Int) (v : FT) : FT := ⟨gv g v.ty, v.mu⟩
def tf (t : σ → Int → σ) (s : σ) (v : FT) : σ := tv t s v.ty
theorem Turn.stepV (hT : Turn c A f bx t g I) {s : σ} {v : VT} {n : Nat} (h : I s (n + 1)) : I (tv t s v) n := by
  unfold tv
  split
  · exact hT.step _ _ _ h
  · exact hT.mono _ _ h
theorem umi (hT : Turn c A f bx t g I) {K : Heap} {i : Nat} {s : σ} {v : VT} {n : Nat} (hA : hcut K c = A) (hs : hget K c = some (bx s)) (hi : hget K i = some (.cells [f])) (hI : I s (n + 1)) :
    run (C u01 [.agg [.int .i64 v.num, .bool v.nul, .int .i64 v.heap], .ptr i 0]) K = some (.ok (.agg [.int .i64 (gv g v).num, .bool (gv g v).nul, .int .i64 (gv g v).heap]) (hset K c (bx (tv t s v)))) := by
  have hid := get_lt hs
  have hil := get_lt hi
  have hgi : ∀ L, hget (hadd K L) i = some (.cells [f]) := fun L => by rw [u2f hil]; exact hi
  have hc1 : ∀ x y, run (callV P C f [.int .i64 v.heap]) (hadd K [x, y]) = some (.ok (.int .i64 (g v.heap)) (hset (hadd K [x, y]) c (bx (t s v.heap)))) := fun x y => hT.call _ s _ n (by rw [cut_le (by omega)]; exact hA) (by rw [u2f hid]; exact hs) hI
  rw [u6n]
  unfold gv tv
  by_cases h5 : v.num = 5
  · rw [if_pos h5, if_pos h5]
    simp +contextual -dsimp (disch := omega) only [↓goDown, goUp, cr, simprocAttr, eq_true h5, hgi, hc1, hT.st, hT.sc, hT.cl, hT.cs, hT.tup, u2m, u36, u38]
  · rw [if_neg h5, if_neg h5, u5b hs]
    simp +contextual -dsimp (disch := omega) only [↓goDown, goUp, cr, simprocAttr, eq_false h5, u2m, u36, u38]
structure Wd (H : Heap) (c : Nat) (b arg : Box) (f : PV) (o : Box) (K : Heap) : Prop where
  len : H.length + 4 ≤ K.length
  cut : hcut K H.length = hset H c b
  ar : hget K H.length = some arg
  fn : hget K (H.length + 1) = some (.cells [f])
  re : ∃ l, hget K (H.length + 2) = some (.cells l) ∧ l.length = 6
  ou : hget K (H.length + 3) = some o
theorem Wd.old {b arg o : Box} {K : Heap} (w : Wd H c b arg f o K) (hc : c < H.length) (hA : hcut H c = A) : hcut K c = A := by
  have h := w.cut
  have : hcut (hcut K H.length) c = hcut K c := by unfold hcut; rw [List.take_take, Nat.min_eq_left (by omega)]
  rw [← this, h, u2y (Nat.le_refl _), hA]
theorem Wd.get {b arg o : Box} {K : Heap} (w : Wd H c b arg f o K) (hc : c < H.length) : hget K c = some b := by
  have h := congrArg (fun K => hget K c) w.cut
  simp only [u3i hc] at h
  unfold hget hcut at h
  rwa [List.getElem?_take_of_lt hc] at h
theorem Wd.next {b b' arg o o' : Box} {K : Heap} {L : List Box} (w : Wd H c b arg f o K) (hc : c < H.length) : Wd H c b' arg f o' (hadd (hset (hset K c b') (H.length + 3) o') L) := by
  have hl := w.len
  refine ⟨by rw [u3s, u12, u12]; omega, ?_, ?_, ?_, ?_, ?_⟩
  · rw [cut_le (by rw [u12, u12]; omega), u2y (by omega), ujq, w.cut, set_set]
  · rw [u2f (by rw [u12, u12]; omega), u1z (by omega), u2w (by omega), w.ar]
  · rw [u2f (by rw [u12, u12]; omega), u1z (by omega), u2w (by omega), w.fn]
  · obtain ⟨l, h1, h2⟩ := w.re
    exact ⟨l, by rw [u2f (by rw [u12, u12]; omega), u1z (by omega), u2w (by omega), h1], h2⟩
  · rw [q3 (by omega)]
theorem Wd.same {b arg o : Box} {K : Heap} (w : Wd H c b arg f o K) (hc : c < H.length) {x : Box} : Wd H c b arg f x (hset K (H.length + 3) x) := by
  have hl := w.len
  refine ⟨by rw [u12]; omega, ?_, ?_, ?_, ?_, ?_⟩
  · rw [u2y (by omega), w.cut]
  · rw [u1z (by omega), w.ar]
  · rw [u1z (by omega), w.fn]
  · obtain ⟨l, h1, h2⟩ := w.re
    exact ⟨l, by rw [u1z (by omega), h1], h2⟩
  · rw [u3i (by omega)]
theorem Wd.more {b arg o : Box} {K : Heap} (w : Wd H c b arg f o K) {L : List Box} : Wd H c b arg f o (hadd K L) := by
  have hl := w.len
  refine ⟨by rw [u3s]; omega, ?_, ?_, ?_, ?_, ?_⟩
  · rw [cut_le (by omega), w.cut]
  · rw [u2f (by omega), w.ar]
  · rw [u2f (by omega), w.fn]
  · obtain ⟨l, h1, h2⟩ := w.re
    exact ⟨l, by rw [u2f (by omega), h1], h2⟩
  · rw [u2f (by omega), w.ou]
theorem uc9 (hT : Turn c A f bx t g I) (hc : c < H.length) (hA : hcut H c = A) {arg o : Box} {s : σ} {K : Heap} {n : Nat} {a : Int} (w : Wd H c (bx s) arg f o K) (hI : I s (n + 1)) : run (callV P C f [.int .i64 a]) K = some (.ok (.int .i64 (g a)) (hset K c (bx (t s a)))) :=
  hT.call K s a n (w.old hc hA) (w.get hc) hI
theorem u5f (hT : Turn c A f bx t g I) (hc : c < H.length) (hA : hcut H c = A) {arg o : Box} {s : σ} {K : Heap} {n : Nat} {v : VT} (w : Wd H c (bx s) arg f o K) (hI : I s (n + 1)) : run (C u01 [.agg [.int .i64 v.num, .bool v.nul, .int .i64 v.heap], .ptr (H.length + 1) 0]) K = some (.ok (.agg [.int .i64 (gv g v).num, .bool (gv g v).nul, .int .i64 (gv g v).heap]) (hset K c (bx (tv t s v)))) :=
  umi hT (w.old hc hA) (w.get hc) w.fn hI
theorem ap_VG {l : List VT} {K : Heap} {v : VT} (hl : l.length < 2000000) : run (ap true 3 24 (accP 3 (l.map encV)) (.slice true false 3 [.agg [.int .i64 v.num, .bool v.nul, .int .i64 v.heap]])) K = some (.ok (accP 3 ((l ++ [v]).map encV)) K) := by
  have := ap_acc (H := K) (sz := 3) (b := 24) (l := l.map encV) (v := encV v) (o := true) (by rw [List.length_map]; show (l.length + 1) * 24 ≤ _; omega)
  rw [List.map_append]
  exact this
theorem bsR_VG {v : VT} {K : Heap} : bsR true (some 3) [.agg [.int .i64 v.num, .bool v.nul, .int .i64 v.heap]] K = some (.ok (.slice true false 3 [.agg [.int .i64 v.num, .bool v.nul, .int .i64 v.heap]]) K) := nrfl rfl
theorem ap_FG {l : List FT} {K : Heap} {v : VT} {m : Bool} (hl : l.length < 2000000) : run (ap true 4 32 (accP 4 (l.map encF)) (.slice true false 4 [.agg [.int .i64 v.num, .bool v.nul, .int .i64 v.heap, .bool m]])) K = some (.ok (accP 4 ((l ++ [(⟨v, m⟩ : FT)]).map encF)) K) := by
  have := ap_acc (H := K) (sz := 4) (b := 32) (l := l.map encF) (v := encF ⟨v, m⟩) (o := true) (by rw [List.length_map]; show (l.length + 1) * 32 ≤ _; omega)
  rw [List.map_append]
  exact this
theorem bsR_FG {v : VT} {m : Bool} {K : Heap} : bsR true (some 4) [.agg [.int .i64 v.num, .bool v.nul, .int .i64 v.heap, .bool m]] K = some (.ok (.slice true false 4 [.agg [.int .i64 v.num, .bool v.nul, .int .i64 v.heap, .bool m]]) K) := nrfl rfl
theorem ap_IG {acc : List Int} {v : Int} {K : Heap} (h : acc.length < 2000000) : run (ap true 1 8 (accP 1 (acc.map encI)) (.slice true false 1 [.int .i64 v])) K = some (.ok (accP 1 ((acc ++ [v]).map encI)) K) := by
  have := ap_acc (H := K) (sz := 1) (b := 8) (l := acc.map encI) (v := encI v) (o := true) (by simp; omega)
  rw [this]
  simp
theorem bsR_IG {v : Int} {K : Heap} : bsR true none [.int .i64 v] K = some (.ok (.slice true false 1 [.int .i64 v]) K) := nrfl rfl
theorem turn1 (hT : Turn c A f bx t g I) (hc : c < H.length) (hA : hcut H c = A) {z : Bool} {l : List Int} (hl : l.length < 2000000) {arg : Box} {v2 v4 v5 e0 e1 e2 e3 e4 : PV} : ∀ (m j : Nat) (K : Heap) (s : σ) (acc : List Int) (n : Nat), j + m = l.length → acc.length + m ≤ 2000000 → I s (m + n) →
    Wd H c (bx s) arg f (.cells [e0, accP 1 (acc.map encI), e1, e2, e3, e4]) K →
    ∃ K', Wd H c (bx ((l.drop j).foldl ( t) s)) arg f (.cells [e0, accP 1 ((acc ++ (l.drop j).map ( g)).map encI), e1, e2, e3, e4]) K' ∧ I ((l.drop j).foldl ( t) s) n ∧
      run (u0u (v2) (.ptr (H.length + 1) 0) v4 v5 (.ptr (H.length + 3) 0) (LZ z 1 (l.map encI)) (.int .i64 l.length) (.int .i64 j)) K = run (u0u (v2) (.ptr (H.length + 1) 0) v4 v5 (.ptr (H.length + 3) 0) (LZ z 1 (l.map encI)) (.int .i64 l.length) (.int .i64 l.length)) K'
  | 0, j, K, s, acc, n, hj, hb, hI, w => by
    have hj : j = l.length := by omega
    subst hj
    rw [List.drop_length]
    refine ⟨K, ?_, ?_, rfl⟩
    · simpa using w
    · simpa using hI
  | m + 1, j, K, s, acc, n, hj, hb, hI, w => by
    have hi : j < l.length := by omega
    have hd : l.drop j = l[j] :: l.drop (j + 1) := List.drop_eq_getElem_cons hi
    have hI1 : I s ((m + n) + 1) := by rwa [Nat.add_right_comm] at hI
    have hI2 : I ( t s l[j]) (m + n) := hT.step _ _ _ hI1
    have w2 := w.next (b' := bx ( t s l[j])) (o' := .cells [e0, accP 1 ((acc ++ [ g l[j]]).map encI), e1, e2, e3, e4]) (L := []) hc
    obtain ⟨K', w3, hI3, hr⟩ := turn1 hT hc hA hl m (j + 1) _ _ (acc ++ [ g l[j]]) n (by omega) (by simp; omega) hI2 w2
    refine ⟨K', ?_, ?_, ?_⟩
    · rw [hd]
      rw [List.foldl_cons, List.map_cons, List.append_cons]
      exact w3
    · rw [hd]
      exact hI3
    · rw [← hr, u2x]
      have hlen := w.len
      have ho := w.ou
      have hf := w.fn
      have hso : ∀ (K : Heap) x y, hset (hset K (H.length + 3) x) c y = hset (hset K c y) (H.length + 3) x := fun K x y => u6b (by omega)
      have c1 : ((j : Int) < l.length) = True := eq_true (by omega)
      have hga : (l.map encI)[j]? = some (encI l[j]) := by simp [hi]
      have hia : ∀ K, run (iaS 1 (LZ z 1 (l.map encI)) (.int .i64 j)) K = some (.ok (.elem [.int .i64 l[j]]) K) := fun K => ia_Z hga
      have h1 : run (callV P C f [.int .i64 l[j]]) K = some (.ok (.int .i64 (g l[j])) (hset K c (bx (t s l[j])))) := uc9 hT hc hA w hI1
      have h2 : ∀ x, run (callV P C f [.int .i64 l[j]]) (hset K (H.length + 3) x) = some (.ok (.int .i64 (g l[j])) (hset (hset K (H.length + 3) x) c (bx (t s l[j])))) := fun x => uc9 hT hc hA (w.same hc) hI1
      simp +contextual -dsimp (disch := omega) only [↓goDown, goUp, cr, simprocAttr, c1, hia, ho, hf, h1, h2, hT.st, hT.sc, hT.cl, hT.cs, hT.tup, hso, u2w, u1z, u6c, q1, q2, q3, q4, r2, r3, r4, r6, u2m, u6j, u36, u3t, u3d, u40, u3b, u0x, u2o, u8n, u6h, low_P, u6a, u9h, u8p, bsR_IG, ap_IG, ns]
      rw [show ∀ K : Heap, hadd K [] = K from fun K => List.append_nil K]
      all_goals rfl
theorem turn2 (hT : Turn c A f bx t g I) (hc : c < H.length) (hA : hcut H c = A) {z : Bool} {l : List VT} (hl : l.length < 2000000) {arg : Box} {v2 v4 e0 e1 e2 e3 e4 : PV} : ∀ (m j : Nat) (K : Heap) (s : σ) (acc : List VT) (n : Nat), j + m = l.length → acc.length + m ≤ 2000000 → I s (m + n) →
    Wd H c (bx s) arg f (.cells [e0, e1, e2, accP 3 (acc.map encV), e3, e4]) K →
    ∃ K', Wd H c (bx ((l.drop j).foldl (tv t) s)) arg f (.cells [e0, e1, e2, accP 3 ((acc ++ (l.drop j).map (gv g)).map encV), e3, e4]) K' ∧ I ((l.drop j).foldl (tv t) s) n ∧
      run (u0g v2 v4 (.fn u01 [] [.ptr (H.length + 1) 0]) (.ptr (H.length + 3) 0) (LZ z 3 (l.map encV)) (.int .i64 l.length) (.int .i64 j)) K = run (u0g v2 v4 (.fn u01 [] [.ptr (H.length + 1) 0]) (.ptr (H.length + 3) 0) (LZ z 3 (l.map encV)) (.int .i64 l.length) (.int .i64 l.length)) K'
  | 0, j, K, s, acc, n, hj, hb, hI, w => by
    have hj : j = l.length := by omega
    subst hj
    rw [List.drop_length]
    refine ⟨K, ?_, ?_, rfl⟩
    · simpa using w
    · simpa using hI
  | m + 1, j, K, s, acc, n, hj, hb, hI, w => by
    have hi : j < l.length := by omega
    have hd : l.drop j = l[j] :: l.drop (j + 1) := List.drop_eq_getElem_cons hi
    have hI1 : I s ((m + n) + 1) := by rwa [Nat.add_right_comm] at hI
    have hI2 : I (tv t s l[j]) (m + n) := hT.stepV hI1
    have w2 := w.next (b' := bx (tv t s l[j])) (o' := .cells [e0, e1, e2, accP 3 ((acc ++ [gv g l[j]]).map encV), e3, e4]) (L := [.cells [.int .i64 l[j].num, .bool l[j].nul, .int .i64 l[j].heap]]) hc
    obtain ⟨K', w3, hI3, hr⟩ := turn2 hT hc hA hl m (j + 1) _ _ (acc ++ [gv g l[j]]) n (by omega) (by simp; omega) hI2 w2
    refine ⟨K', ?_, ?_, ?_⟩
    · rw [hd]
      rw [List.foldl_cons, List.map_cons, List.append_cons]
      exact w3
    · rw [hd]
      exact hI3
    · rw [← hr, u2l]
      have hlen := w.len
      have ho := w.ou
      have hf := w.fn
      have hso : ∀ (K : Heap) x y, hset (hset K (H.length + 3) x) c y = hset (hset K c y) (H.length + 3) x := fun K x y => u6b (by omega)
      have c1 : ((j : Int) < l.length) = True := eq_true (by omega)
      have hga : (l.map encV)[j]? = some (encV l[j]) := by simp [hi]
      have hia : ∀ K, run (iaS 3 (LZ z 3 (l.map encV)) (.int .i64 j)) K = some (.ok (.elem [.int .i64 l[j].num, .bool l[j].nul, .int .i64 l[j].heap]) K) := fun K => ia_Z hga
      have h1 : ∀ X, run (C u01 [.agg [.int .i64 l[j].num, .bool l[j].nul, .int .i64 l[j].heap], .ptr (H.length + 1) 0]) (hadd K X) = some (.ok (.agg [.int .i64 (gv g l[j]).num, .bool (gv g l[j]).nul, .int .i64 (gv g l[j]).heap]) (hset (hadd K X) c (bx (tv t s l[j])))) := fun X => u5f hT hc hA w.more hI1
      have h2 : ∀ x X, run (C u01 [.agg [.int .i64 l[j].num, .bool l[j].nul, .int .i64 l[j].heap], .ptr (H.length + 1) 0]) (hadd (hset K (H.length + 3) x) X) = some (.ok (.agg [.int .i64 (gv g l[j]).num, .bool (gv g l[j]).nul, .int .i64 (gv g l[j]).heap]) (hset (hadd (hset K (H.length + 3) x) X) c (bx (tv t s l[j])))) := fun x X => u5f hT hc hA (w.same hc).more hI1
      simp +contextual -dsimp (disch := omega) only [↓goDown, goUp, cr, simprocAttr, c1, hia, ho, hf, h1, h2, hT.st, hT.sc, hT.cl, hT.cs, hT.tup, hso, u2w, u1z, u6c, q1, q2, q3, q4, r2, r3, r4, r6, u2m, u6j, u36, u3t, u3d, u40, u3b, u0x, u2o, u8n, u6h, low_P, u6a, u9h, u8p, bsR_VG, ap_VG, ns]
      all_goals rfl
theorem turn3 (hT : Turn c A f bx t g I) (hc : c < H.length) (hA : hcut H c = A) {z : Bool} {l : List VT} (hl : l.length < 2000000) {arg : Box} {v2 v4 e0 e1 e2 e3 e4 : PV} : ∀ (m j : Nat) (K : Heap) (s : σ) (acc : List VT) (n : Nat), j + m = l.length → acc.length + m ≤ 2000000 → I s (m + n) →
    Wd H c (bx s) arg f (.cells [e0, e1, e2, e3, accP 3 (acc.map encV), e4]) K →
    ∃ K', Wd H c (bx ((l.drop j).foldl (tv t) s)) arg f (.cells [e0, e1, e2, e3, accP 3 ((acc ++ (l.drop j).map (gv g)).map encV), e4]) K' ∧ I ((l.drop j).foldl (tv t) s) n ∧
      run (u0c v2 v4 (.fn u01 [] [.ptr (H.length + 1) 0]) (.ptr (H.length + 3) 0) (LZ z 3 (l.map encV)) (.int .i64 l.length) (.int .i64 j)) K = run (u0c v2 v4 (.fn u01 [] [.ptr (H.length + 1) 0]) (.ptr (H.length + 3) 0) (LZ z 3 (l.map encV)) (.int .i64 l.length) (.int .i64 l.length)) K'
  | 0, j, K, s, acc, n, hj, hb, hI, w => by
    have hj : j = l.length := by omega
    subst hj
    rw [List.drop_length]
    refine ⟨K, ?_, ?_, rfl⟩
    · simpa using w
    · simpa using hI
  | m + 1, j, K, s, acc, n, hj, hb, hI, w => by
    have hi : j < l.length := by omega
    have hd : l.drop j = l[j] :: l.drop (j + 1) := List.drop_eq_getElem_cons hi
    have hI1 : I s ((m + n) + 1) := by rwa [Nat.add_right_comm] at hI
    have hI2 : I (tv t s l[j]) (m + n) := hT.stepV hI1
    have w2 := w.next (b' := bx (tv t s l[j])) (o' := .cells [e0, e1, e2, e3, accP 3 ((acc ++ [gv g l[j]]).map encV), e4]) (L := [.cells [.int .i64 l[j].num, .bool l[j].nul, .int .i64 l[j].heap]]) hc
    obtain ⟨K', w3, hI3, hr⟩ := turn3 hT hc hA hl m (j + 1) _ _ (acc ++ [gv g l[j]]) n (by omega) (by simp; omega) hI2 w2
    refine ⟨K', ?_, ?_, ?_⟩
    · rw [hd]
      rw [List.foldl_cons, List.map_cons, List.append_cons]
      exact w3
    · rw [hd]
      exact hI3
    · rw [← hr, u2i]
      have hlen := w.len
      have ho := w.ou
      have hf := w.fn
      have hso : ∀ (K : Heap) x y, hset (hset K (H.length + 3) x) c y = hset (hset K c y) (H.length + 3) x := fun K x y => u6b (by omega)
      have c1 : ((j : Int) < l.length) = True := eq_true (by omega)
      have hga : (l.map encV)[j]? = some (encV l[j]) := by simp [hi]
      have hia : ∀ K, run (iaS 3 (LZ z 3 (l.map encV)) (.int .i64 j)) K = some (.ok (.elem [.int .i64 l[j].num, .bool l[j].nul, .int .i64 l[j].heap]) K) := fun K => ia_Z hga
      have h1 : ∀ X, run (C u01 [.agg [.int .i64 l[j].num, .bool l[j].nul, .int .i64 l[j].heap], .ptr (H.length + 1) 0]) (hadd K X) = some (.ok (.agg [.int .i64 (gv g l[j]).num, .bool (gv g l[j]).nul, .int .i64 (gv g l[j]).heap]) (hset (hadd K X) c (bx (tv t s l[j])))) := fun X => u5f hT hc hA w.more hI1
      have h2 : ∀ x X, run (C u01 [.agg [.int .i64 l[j].num, .bool l[j].nul, .int .i64 l[j].heap], .ptr (H.length + 1) 0]) (hadd (hset K (H.length + 3) x) X) = some (.ok (.agg [.int .i64 (gv g l[j]).num, .bool (gv g l[j]).nul, .int .i64 (gv g l[j]).heap]) (hset (hadd (hset K (H.length + 3) x) X) c (bx (tv t s l[j])))) := fun x X => u5f hT hc hA (w.same hc).more hI1
      simp +contextual -dsimp (disch := omega) only [↓goDown, goUp, cr, simprocAttr, c1, hia, ho, hf, h1, h2, hT.st, hT.sc, hT.cl, hT.cs, hT.tup, hso, u2w, u1z, u6c, q1, q2, q3, q4, r2, r3, r4, r6, u2m, u6j, u36, u3t, u3d, u40, u3b, u0x, u2o, u8n, u6h, low_P, u6a, u9h, u8p, bsR_VG, ap_VG, ns]
      all_goals rfl
theorem turn4 (hT : Turn c A f bx t g I) (hc : c < H.length) (hA : hcut H c = A) {z : Bool} {l : List FT} (hl : l.length < 2000000) {arg : Box} {v4 e0 e1 e2 e3 e4 : PV} : ∀ (m j : Nat) (K : Heap) (s : σ) (acc : List FT) (n : Nat), j + m = l.length → acc.length + m ≤ 2000000 → I s (m + n) →
    Wd H c (bx s) arg f (.cells [e0, e1, e2, e3, e4, accP 4 (acc.map encF)]) K →
    ∃ K', Wd H c (bx ((l.drop j).foldl (tf t) s)) arg f (.cells [e0, e1, e2, e3, e4, accP 4 ((acc ++ (l.drop j).map (gf g)).map encF)]) K' ∧ I ((l.drop j).foldl (tf t) s) n ∧
      run (u0b v4 (.fn u01 [] [.ptr (H.length + 1) 0]) (.ptr (H.length + 3) 0) (LZ z 4 (l.map encF)) (.int .i64 l.length) (.int .i64 j)) K = run (u0b v4 (.fn u01 [] [.ptr (H.length + 1) 0]) (.ptr (H.length + 3) 0) (LZ z 4 (l.map encF)) (.int .i64 l.length) (.int .i64 l.length)) K'
  | 0, j, K, s, acc, n, hj, hb, hI, w => by
    have hj : j = l.length := by omega
    subst hj
    rw [List.drop_length]
    refine ⟨K, ?_, ?_, rfl⟩
    · simpa using w
    · simpa using hI
  | m + 1, j, K, s, acc, n, hj, hb, hI, w => by
    have hi : j < l.length := by omega
    have hd : l.drop j = l[j] :: l.drop (j + 1) := List.drop_eq_getElem_cons hi
    have hI1 : I s ((m + n) + 1) := by rwa [Nat.add_right_comm] at hI
    have hI2 : I (tf t s l[j]) (m + n) := hT.stepV hI1
    have w2 := w.next (b' := bx (tf t s l[j])) (o' := .cells [e0, e1, e2, e3, e4, accP 4 ((acc ++ [gf g l[j]]).map encF)]) (L := [.cells [.int .i64 l[j].ty.num, .bool l[j].ty.nul, .int .i64 l[j].ty.heap, .bool l[j].mu]]) hc
    obtain ⟨K', w3, hI3, hr⟩ := turn4 hT hc hA hl m (j + 1) _ _ (acc ++ [gf g l[j]]) n (by omega) (by simp; omega) hI2 w2
    refine ⟨K', ?_, ?_, ?_⟩
    · rw [hd]
      rw [List.foldl_cons, List.map_cons, List.append_cons]
      exact w3
    · rw [hd]
      exact hI3
    · rw [← hr, u2d]
      have hlen := w.len
      have ho := w.ou
      have hf := w.fn
      have hso : ∀ (K : Heap) x y, hset (hset K (H.length + 3) x) c y = hset (hset K c y) (H.length + 3) x := fun K x y => u6b (by omega)
      have c1 : ((j : Int) < l.length) = True := eq_true (by omega)
      have hga : (l.map encF)[j]? = some (encF l[j]) := by simp [hi]
      have hia : ∀ K, run (iaS 4 (LZ z 4 (l.map encF)) (.int .i64 j)) K = some (.ok (.elem [.int .i64 l[j].ty.num, .bool l[j].ty.nul, .int .i64 l[j].ty.heap, .bool l[j].mu]) K) := fun K => ia_Z hga
      have h1 : ∀ X, run (C u01 [.agg [.int .i64 l[j].ty.num, .bool l[j].ty.nul, .int .i64 l[j].ty.heap], .ptr (H.length + 1) 0]) (hadd K X) = some (.ok (.agg [.int .i64 (gv g l[j].ty).num, .bool (gv g l[j].ty).nul, .int .i64 (gv g l[j].ty).heap]) (hset (hadd K X) c (bx (tv t s l[j].ty)))) := fun X => u5f hT hc hA w.more hI1
      have h2 : ∀ x X, run (C u01 [.agg [.int .i64 l[j].ty.num, .bool l[j].ty.nul, .int .i64 l[j].ty.heap], .ptr (H.length + 1) 0]) (hadd (hset K (H.length + 3) x) X) = some (.ok (.agg [.int .i64 (gv g l[j].ty).num, .bool (gv g l[j].ty).nul, .int .i64 (gv g l[j].ty).heap]) (hset (hadd (hset K (H.length + 3) x) X) c (bx (tv t s l[j].ty)))) := fun x X => u5f hT hc hA (w.same hc).more hI1
      simp +contextual -dsimp (disch := omega) only [↓goDown, goUp, cr, simprocAttr, c1, hia, ho, hf, h1, h2, hT.st, hT.sc, hT.cl, hT.cs, hT.tup, hso, u2w, u1z, u6c, q1, q2, q3, q4, r2, r3, r4, r6, u2m, u6j, u36, u3t, u3d, u40, u3b, u0x, u2o, u8n, u6h, low_P, u6a, u9h, u8p, bsR_FG, ap_FG, ns]
      all_goals rfl
end Go.Proofs.YtiiepllnnjjmaaaDoor.Pi.Q
namespace Go.Proofs.YtiiepllnnjjmaaaDoor.Pi.Q
open Go Go.Proofs.YtiiepllnnjjmaaaDoor.Pi
attribute [local congr] ite_congr
variable {σ : Type} {bx : σ → Box} {t : σ → Int → σ} {g : Int → Int} {I : σ → Nat → Prop} {f : PV} {c : Nat} {A H : Heap}
def tS (t : σ → Int → σ) (s : σ) (v : SG) : σ := v.comp.fs.l.foldl (tf t) (v.comp.rs.l.foldl (tv t) (v.comp.ps.l.foldl (tv t) (v.sup.l.foldl t s)))
def gS (g : Int → Int) (v : SG) : SG := ⟨v.fin, ⟨true, v.sup.l.map g⟩, ⟨v.comp.kind, ⟨true, v.comp.ps.l.map (gv g)⟩, ⟨true, v.comp.rs.l.map (gv g)⟩, ⟨true, v.comp.fs.l.map (gf g)⟩⟩⟩
def nS (v : SG) : Nat := v.sup.l.length + (v.comp.ps.l.length + (v.comp.rs.l.length + v.comp.fs.l.length))
theorem u8b (hT : Turn c A f bx t g I) (hc : c < H.length) (hA : hcut H c = A) {s : σ} {n : Nat} {v : SG} (hs : hget H c = some (bx s)) (hm : nS v < 2000000) (hI : I s (nS v + n)) :
    run (C u0r [.agg (cs_SG v), f]) H = some (.ok (.agg (cs_SG (gS g v))) (hset H c (bx (tS t s v)))) ∧ I (tS t s v) n := by
  obtain ⟨fin, ⟨y1, sup⟩, ⟨kind, ⟨y2, ps⟩, ⟨y3, rs⟩, ⟨y4, fs⟩⟩⟩ := v
  unfold nS at hm hI
  simp only at hm hI
  unfold cs_SG gS tS
  simp only
  have hlow := hT.low
  have hst := hT.st
  have hself := u5b hs
  have e0 : ∀ sz, (.slice false true 0 [] : PV) = accP sz [] := fun sz => rfl
  have w0 : Wd H c (bx s) (.cells [.bool fin, LZ y1 1 (sup.map encI), .int .i64 kind, LZ y2 3 (ps.map encV), LZ y3 3 (rs.map encV), LZ y4 4 (fs.map encF)]) f (.cells [.bool fin, accP 1 (([] : List Int).map encI), .int .i64 kind, .slice false true 0 [], .slice false true 0 [], .slice false true 0 []])
      (hadd H [.cells [.bool fin, LZ y1 1 (sup.map encI), .int .i64 kind, LZ y2 3 (ps.map encV), LZ y3 3 (rs.map encV), LZ y4 4 (fs.map encF)], .cells [f], .cells [.bool false, .slice false true 0 [], .int .i64 0, .slice false true 0 [], .slice false true 0 [], .slice false true 0 []], .cells [.bool fin, .slice false true 0 [], .int .i64 kind, .slice false true 0 [], .slice false true 0 [], .slice false true 0 []]]) := by
    refine ⟨?_, ?_, u3p, u41 1, ⟨_, u41 2, rfl⟩, u41 3⟩
    · rw [u3s]; exact Nat.le_refl _
    · rw [cutA0, hself]
  obtain ⟨K1, w1, i1, h1⟩ := turn1 (z := y1) (l := sup) (v2 := .ptr H.length 0) (v4 := .ptr (H.length + 2) 0) (v5 := .fn u01 [] [.ptr (H.length + 1) 0]) hT hc hA (by omega) sup.length 0 _ s [] (ps.length + (rs.length + fs.length) + n) (Nat.zero_add _) (by simp; omega) (by rw [← Nat.add_assoc]; exact hI) w0
  simp only [List.drop_zero, List.nil_append] at w1 i1
  obtain ⟨K2, w2, i2, h2⟩ := turn2 (z := y2) (l := ps) (v2 := .ptr H.length 0) (v4 := .ptr (H.length + 2) 0) hT hc hA (by omega) ps.length 0 K1 _ [] (rs.length + fs.length + n) (Nat.zero_add _) (by simp; omega) (by rw [show ps.length + (rs.length + fs.length + n) = ps.length + (rs.length + fs.length) + n by omega]; exact i1) w1
  simp only [List.drop_zero, List.nil_append] at w2 i2
  obtain ⟨K3, w3, i3, h3⟩ := turn3 (z := y3) (l := rs) (v2 := .ptr H.length 0) (v4 := .ptr (H.length + 2) 0) hT hc hA (by omega) rs.length 0 K2 _ [] (fs.length + n) (Nat.zero_add _) (by simp; omega) (by rw [show rs.length + (fs.length + n) = rs.length + fs.length + n by omega]; exact i2) w2
  simp only [List.drop_zero, List.nil_append] at w3 i3
  obtain ⟨K4, w4, i4, h4⟩ := turn4 (z := y4) (l := fs) (v4 := .ptr (H.length + 2) 0) hT hc hA (by omega) fs.length 0 K3 _ [] n (Nat.zero_add _) (by simp; omega) i3 w3
  simp only [List.drop_zero, List.nil_append] at w4 i4
  simp only [show ((0 : Nat) : Int) = 0 from rfl] at h1 h2 h3 h4
  have x1 := w1.ar
  have x2 := w2.ar
  have x3 := w3.ar
  have s1 : run (u0u (.ptr H.length 0) (.ptr (H.length + 1) 0) (.ptr (H.length + 2) 0) (.fn u01 [] [.ptr (H.length + 1) 0]) (.ptr (H.length + 3) 0) (LZ y1 1 (sup.map encI)) (.int .i64 sup.length) (.int .i64 sup.length)) K1 = run (u0g (.ptr H.length 0) (.ptr (H.length + 2) 0) (.fn u01 [] [.ptr (H.length + 1) 0]) (.ptr (H.length + 3) 0) (LZ y2 3 (ps.map encV)) (.int .i64 ps.length) (.int .i64 0)) K1 := by
    have c1 : ((sup.length : Int) < sup.length) = False := eq_false (by omega)
    rw [u2x]
    simp +contextual -dsimp (disch := omega) only [↓goDown, goUp, cr, simprocAttr, c1, x1, strip_Z, u08, ln_Z, u0t, List.length_map]
  have s2 : run (u0g (.ptr H.length 0) (.ptr (H.length + 2) 0) (.fn u01 [] [.ptr (H.length + 1) 0]) (.ptr (H.length + 3) 0) (LZ y2 3 (ps.map encV)) (.int .i64 ps.length) (.int .i64 ps.length)) K2 = run (u0c (.ptr H.length 0) (.ptr (H.length + 2) 0) (.fn u01 [] [.ptr (H.length + 1) 0]) (.ptr (H.length + 3) 0) (LZ y3 3 (rs.map encV)) (.int .i64 rs.length) (.int .i64 0)) K2 := by
    have c1 : ((ps.length : Int) < ps.length) = False := eq_false (by omega)
    rw [u2l]
    simp +contextual -dsimp (disch := omega) only [↓goDown, goUp, cr, simprocAttr, c1, x2, strip_Z, u08, ln_Z, u0t, List.length_map]
  have s3 : run (u0c (.ptr H.length 0) (.ptr (H.length + 2) 0) (.fn u01 [] [.ptr (H.length + 1) 0]) (.ptr (H.length + 3) 0) (LZ y3 3 (rs.map encV)) (.int .i64 rs.length) (.int .i64 rs.length)) K3 = run (u0b (.ptr (H.length + 2) 0) (.fn u01 [] [.ptr (H.length + 1) 0]) (.ptr (H.length + 3) 0) (LZ y4 4 (fs.map encF)) (.int .i64 fs.length) (.int .i64 0)) K3 := by
    have c1 : ((rs.length : Int) < rs.length) = False := eq_false (by omega)
    rw [u2i]
    simp +contextual -dsimp (disch := omega) only [↓goDown, goUp, cr, simprocAttr, c1, x3, strip_Z, u08, ln_Z, u0t, List.length_map]
  refine ⟨?_, i4⟩
  have hl4 := w4.len
  have ho4 := w4.ou
  obtain ⟨rl, hr4, hrl⟩ := w4.re
  have s4 : truncR H (run (u0b (.ptr (H.length + 2) 0) (.fn u01 [] [.ptr (H.length + 1) 0]) (.ptr (H.length + 3) 0) (LZ y4 4 (fs.map encF)) (.int .i64 fs.length) (.int .i64 fs.length)) K4) = some (.ok (.agg [.bool fin, LZ true 1 ((sup.map g).map encI), .int .i64 kind, LZ true 3 ((ps.map (gv g)).map encV), LZ true 3 ((rs.map (gv g)).map encV), LZ true 4 ((fs.map (gf g)).map encF)]) (hset H c (bx (fs.foldl (tf t) (rs.foldl (tv t) (ps.foldl (tv t) (sup.foldl t s))))))) := by
    have c1 : ((fs.length : Int) < fs.length) = False := eq_false (by omega)
    obtain ⟨a0, a1, a2, a3, a4, a5, rfl⟩ : ∃ a0 a1 a2 a3 a4 a5, rl = [a0, a1, a2, a3, a4, a5] := by
      match rl, hrl with
      | [a0, a1, a2, a3, a4, a5], _ => exact ⟨a0, a1, a2, a3, a4, a5, rfl⟩
    have hg2 : ∀ x, hget (hset K4 (H.length + 2) x) (H.length + 2) = some x := fun x => u3i (by omega)
    have hcut : ∀ x, hcut (hset K4 (H.length + 2) x) H.length = _ := fun x => (u2y (by omega)).trans w4.cut
    rw [u2d]
    simp +contextual -dsimp (disch := omega) only [↓goDown, goUp, cr, simprocAttr, c1, ho4, hr4, hg2, hcut, u3t, u3d, u40, u3b, u0x, u2o, u8n, u6h, low_P, u6a, u9h, u8p, u35, u19, u0m, low_Z, u08, strip_Z, u0t]
  rw [← s4, ← h4, ← s3, ← h3, ← s2, ← h2, ← s1, ← h1, u92]
  simp +contextual -dsimp (disch := omega) only [↓goDown, goUp, cr, simprocAttr, hT.sc, hT.cl, hT.cs, hT.tup, hlow, u19, u0m, low_Z, u08, strip_Z, u0t, ln_Z, List.length_map, run_mf]
  all_goals rfl
end Go.Proofs.YtiiepllnnjjmaaaDoor.Pi.Q
namespace Go.Proofs.YtiiepllnnjjmaaaDoor.Pi.Q
open Go Go.Proofs.YtiiepllnnjjmaaaDoor.Pi
attribute [local congr] ite_congr
def hps : List VT → List Int
  | [] => []
  | v :: l => if v.num = 5 then v.heap :: hps l else hps l
def allS (v : SG) : List Int := ((v.sup.l ++ hps v.comp.ps.l) ++ hps v.comp.rs.l) ++ hps (v.comp.fs.l.map (·.ty))
theorem u5v : ∀ l, (hps l).length ≤ l.length
  | [] => Nat.le_refl _
  | v :: l => by
    have := u5v l
    unfold hps
    split <;> simp only [List.length_cons] <;> omega
theorem ub6 {σ : Type} {t : σ → Int → σ} : ∀ (l : List VT) (s : σ), l.foldl (tv t) s = (hps l).foldl t s
  | [], s => rfl
  | v :: l, s => by
    rw [List.foldl_cons, ub6 l, hps]
    unfold tv
    split <;> rfl
theorem ukc {σ : Type} {t : σ → Int → σ} : ∀ (l : List FT) (s : σ), l.foldl (tf t) s = (hps (l.map (·.ty))).foldl t s
  | [], s => rfl
  | v :: l, s => by
    rw [List.foldl_cons, ukc l, List.map_cons]
    unfold tf tv
    rw [hps]
    split <;> rfl
theorem tS_is {σ : Type} {t : σ → Int → σ} {s : σ} {v : SG} : tS t s v = (allS v).foldl t s := by
  unfold tS allS
  rw [ukc, ub6, ub6, ← List.foldl_append, ← List.foldl_append, ← List.foldl_append]
  simp only [List.append_assoc]
theorem ubb {v : SG} : (allS v).length ≤ nS v := by
  have h1 := u5v v.comp.ps.l
  have h2 := u5v v.comp.rs.l
  have h3 := u5v (v.comp.fs.l.map (·.ty))
  unfold allS nS
  simp only [List.length_append, List.length_map] at *
  omega
theorem nS_le {v : SG} : nS v ≤ ms_SG v := by
  have h1 := sumLen (m := fun a => ms_V a) v.comp.ps.l (fun a _ => by unfold ms_V; omega)
  have h2 := sumLen (m := fun a => ms_V a) v.comp.rs.l (fun a _ => by unfold ms_V; omega)
  have h3 := sumLen (m := fun a => ms_F a) v.comp.fs.l (fun a _ => by unfold ms_F; omega)
  have h4 := sumLen (m := fun _ => 1) v.sup.l (fun a _ => Nat.le_refl _)
  unfold nS ms_SG ms_CG
  omega
def pos (l : List Int) : List Int := l.filter (fun a => decide (0 ≤ a))
theorem gv_id {v : VT} : gv id v = v := by unfold gv; split <;> rfl
theorem gf_id {v : FT} : gf id v = v := by unfold gf; rw [gv_id]
theorem gS_id {v : SG} : (gS id v).plain = v.plain := by
  have h1 : v.comp.ps.l.map (gv id) = v.comp.ps.l := by rw [show (gv id : VT → VT) = id from funext fun _ => gv_id]; exact List.map_id _
  have h2 : v.comp.rs.l.map (gv id) = v.comp.rs.l := by rw [show (gv id : VT → VT) = id from funext fun _ => gv_id]; exact List.map_id _
  have h3 : v.comp.fs.l.map (gf id) = v.comp.fs.l := by rw [show (gf id : FT → FT) = id from funext fun _ => gf_id]; exact List.map_id _
  unfold gS SG.plain CG.plain
  simp only [h1, h2, h3, List.map_id]
theorem grow8 {n : Nat} (h : n ≤ 10000000) : growB 8 n = true := decide_eq_true (by show n * 8 ≤ _; omega)
theorem um6 {z : Bool} {l : List Int} {K : Heap} (h : l.length ≤ 10000000) : run (ap true 1 8 (.slice false true 0 []) (LZ z 1 (l.map encI))) K = some (.ok (accP 1 (l.map encI)) K) := by
  cases l with
  | nil => cases z <;> rfl
  | cons a r =>
    have hg := grow8 (n := ((a :: r).map encI).length) (by rw [List.length_map]; exact h)
    have key : ap true 1 8 (.slice false true 0 []) (LZ z 1 ((a :: r).map encI)) = (bif growB 8 ((a :: r).map encI).length then M.pure (.slice true false 1 ((a :: r).map encI)) else M.fail) := rfl
    rw [key, hg]
    rfl
theorem uba {l r : List Int} {K : Heap} (h : l.length + r.length ≤ 10000000) : run (ap true 1 8 (accP 1 (l.map encI)) (accP 1 (r.map encI))) K = some (.ok (accP 1 ((l ++ r).map encI)) K) := by
  cases l with
  | nil =>
    cases r with
    | nil => rfl
    | cons b r =>
      have hg := grow8 (n := ((b :: r).map encI).length) (by rw [List.length_map]; simp only [List.length_nil] at h; omega)
      have key : ap true 1 8 (accP 1 (([] : List Int).map encI)) (accP 1 ((b :: r).map encI)) = (bif growB 8 ((b :: r).map encI).length then M.pure (.slice true false 1 ((b :: r).map encI)) else M.fail) := rfl
      rw [key, hg]
      rfl
  | cons a l =>
    have hg := grow8 (n := ((a :: l).map encI).length + (r.map encI).length) (by rw [List.length_map, List.length_map]; exact h)
    cases r with
    | nil =>
      have key : ap true 1 8 (accP 1 ((a :: l).map encI)) (accP 1 (([] : List Int).map encI)) = (bif (true && (true && growB 8 (((a :: l).map encI).length + (([] : List Int).map encI).length))) then M.pure (.slice true false 1 ((a :: l).map encI ++ [])) else M.fail) := rfl
      rw [key, hg, List.append_nil, List.append_nil]
      rfl
    | cons b r =>
      have key : ap true 1 8 (accP 1 ((a :: l).map encI)) (accP 1 ((b :: r).map encI)) = (bif (true && (true && growB 8 (((a :: l).map encI).length + ((b :: r).map encI).length))) then M.pure (.slice true false 1 ((a :: l).map encI ++ (b :: r).map encI)) else M.fail) := rfl
      rw [key, hg, List.map_append]
      rfl
theorem u6x {H : Heap} {v2 : PV} {z : Bool} {l : List VT} (hl : l.length < 2000000) : ∀ (m i : Nat) (acc : List Int), i + m = l.length → acc.length + m < 2000000 →
    run (u18 (LZ z 3 (l.map encV)) v2 (accP 1 (acc.map encI)) (.int .i64 i)) H = some (.ok (accP 1 ((acc ++ hps (l.drop i)).map encI)) H)
  | 0, i, acc, h, ha => by
    rw [u2a, List.drop_eq_nil_of_le (by omega), hps, List.append_nil]
    have c1 : ((i : Int) < l.length) = False := eq_false (by omega)
    simp +contextual -dsimp (disch := omega) only [↓goDown, goUp, cr, simprocAttr, strip_Z, ln_Z, List.length_map, c1, u2o]
  | m + 1, i, acc, h, ha => by
    have hi : i < l.length := by omega
    have hd : l.drop i = l[i] :: l.drop (i + 1) := List.drop_eq_getElem_cons hi
    rw [u2a, hd, hps]
    have c1 : ((i : Int) < l.length) = True := eq_true (by omega)
    have hga : (l.map encV)[i]? = some (encV l[i]) := by simp [hi]
    have hia : ∀ K, run (iaS 3 (LZ z 3 (l.map encV)) (.int .i64 i)) K = some (.ok (.elem [.int .i64 l[i].num, .bool l[i].nul, .int .i64 l[i].heap]) K) := fun K => ia_Z hga
    by_cases h5 : l[i].num = 5
    · have ih := u6x (H := H) (v2 := v2) (z := z) hl m (i + 1) (acc ++ [l[i].heap]) (by omega) (by simp; omega)
      rw [List.append_assoc, List.singleton_append] at ih
      rw [if_pos h5]
      simp +contextual -dsimp (disch := omega) only [↓goDown, goUp, cr, simprocAttr, strip_Z, ln_Z, List.length_map, c1, hia, eq_true h5, bsR_IG, ap_IG, u1x, ns]
      exact ih
    · have ih := u6x (H := H) (v2 := v2) (z := z) hl m (i + 1) acc (by omega) (by omega)
      rw [if_neg h5]
      simp +contextual -dsimp (disch := omega) only [↓goDown, goUp, cr, simprocAttr, strip_Z, ln_Z, List.length_map, c1, hia, eq_false h5, u1x, ns]
      exact ih
theorem ubw {H : Heap} {z : Bool} {l : List VT} (hl : l.length < 2000000) : run (C u0f [LZ z 3 (l.map encV)]) H = some (.ok (accP 1 ((hps l).map encI)) H) := by
  have h := fun v2 => u6x (H := H) (v2 := v2) (z := z) hl l.length 0 [] (Nat.zero_add _) (by simp; omega)
  simp only [List.drop_zero, List.nil_append, show ((0 : Nat) : Int) = 0 from rfl] at h
  have e0 : (accP 1 (([] : List Int).map encI)) = .slice false true 0 [] := rfl
  rw [e0] at h
  rw [u4u]
  simp +contextual -dsimp (disch := omega) only [↓goDown, goUp, cr, simprocAttr, h, u40]
theorem uka {H : Heap} {v : VT} : run (C u0f [.slice false false 3 [.agg [.int .i64 v.num, .bool v.nul, .int .i64 v.heap]]]) H = some (.ok (accP 1 ((hps [v]).map encI)) H) :=
  ubw (z := true) (l := [v]) (by simp)
theorem ugw {H : Heap} {j : Nat} {v2 a0 a1 a2 a3 a4 : PV} {z : Bool} {l : List FT} (hl : l.length < 2000000) (hj : hget H j = some (.cells [a0, a1, a2, a3, a4, LZ z 4 (l.map encF)])) : ∀ (m i : Nat) (acc : List Int), i + m = l.length → acc.length + m < 9000000 →
    run (u0j (.ptr j 0) v2 (accP 1 (acc.map encI)) (.int .i64 i)) H = some (.ok (accP 1 ((acc ++ hps ((l.drop i).map (·.ty))).map encI)) H)
  | 0, i, acc, h, ha => by
    rw [u23, List.drop_eq_nil_of_le (by omega), List.map_nil, hps, List.append_nil]
    have c1 : ((i : Int) < l.length) = False := eq_false (by omega)
    simp +contextual -dsimp (disch := omega) only [↓goDown, goUp, cr, simprocAttr, hj, strip_Z, u08, ln_Z, List.length_map, c1, u2o]
  | m + 1, i, acc, h, ha => by
    have hi : i < l.length := by omega
    have hd : l.drop i = l[i] :: l.drop (i + 1) := List.drop_eq_getElem_cons hi
    have h1 := u5v [l[i].ty]
    simp only [List.length_cons, List.length_nil] at h1
    have e1 : hps (l[i].ty :: (l.drop (i + 1)).map (·.ty)) = hps [l[i].ty] ++ hps ((l.drop (i + 1)).map (·.ty)) := by
      simp only [hps]
      split <;> simp
    rw [u23, hd, List.map_cons, e1]
    have c1 : ((i : Int) < l.length) = True := eq_true (by omega)
    have hga : (l.map encF)[i]? = some (encF l[i]) := by simp [hi]
    have hia : ∀ K, run (iaS 4 (LZ z 4 (l.map encF)) (.int .i64 i)) K = some (.ok (.elem [.int .i64 l[i].ty.num, .bool l[i].ty.nul, .int .i64 l[i].ty.heap, .bool l[i].mu]) K) := fun K => ia_Z hga
    have ho := fun K => uka (H := K) (v := l[i].ty)
    have ih := ugw (H := H) (v2 := v2) hl hj m (i + 1) (acc ++ hps [l[i].ty]) (by omega) (by rw [List.length_append]; omega)
    rw [List.append_assoc] at ih
    have hap : ∀ K, run (ap true 1 8 (accP 1 (acc.map encI)) (accP 1 ((hps [l[i].ty]).map encI))) K = some (.ok (accP 1 ((acc ++ hps [l[i].ty]).map encI)) K) := fun K => uba (by omega)
    simp +contextual -dsimp (disch := omega) only [↓goDown, goUp, cr, simprocAttr, hj, strip_Z, u08, ln_Z, List.length_map, c1, hia, bsR_VG, ho, hap, ns]
    exact ih
theorem all_is {H : Heap} {v : SG} (hm : nS v < 2000000) : run (C u1t [.agg (cs_SG v)]) H = some (.ok (accP 1 ((allS v).map encI)) H) := by
  obtain ⟨fin, ⟨y1, sup⟩, ⟨kind, ⟨y2, ps⟩, ⟨y3, rs⟩, ⟨y4, fs⟩⟩⟩ := v
  unfold nS at hm
  unfold allS cs_SG
  simp only at hm ⊢
  have g1 := u5v ps
  have g2 := u5v rs
  have h1 : ∀ K, run (ap true 1 8 (.slice false true 0 []) (LZ y1 1 (sup.map encI))) K = some (.ok (accP 1 (sup.map encI)) K) := fun K => um6 (by omega)
  have h2 := fun K => ubw (H := K) (z := y2) (l := ps) (by omega)
  have h3 := fun K => ubw (H := K) (z := y3) (l := rs) (by omega)
  have h4 : ∀ K, run (ap true 1 8 (accP 1 (sup.map encI)) (accP 1 ((hps ps).map encI))) K = some (.ok (accP 1 ((sup ++ hps ps).map encI)) K) := fun K => uba (by omega)
  have h5 : ∀ K, run (ap true 1 8 (accP 1 ((sup ++ hps ps).map encI)) (accP 1 ((hps rs).map encI))) K = some (.ok (accP 1 ((sup ++ hps ps ++ hps rs).map encI)) K) := fun K => uba (by rw [List.length_append]; omega)
  have h6 : ∀ v2, run (u0j (.ptr H.length 0) v2 (accP 1 ((sup ++ hps ps ++ hps rs).map encI)) (.int .i64 0)) (hadd H [.cells [.bool fin, LZ y1 1 (sup.map encI), .int .i64 kind, LZ y2 3 (ps.map encV), LZ y3 3 (rs.map encV), LZ y4 4 (fs.map encF)]]) = _ := fun v2 => ugw (v2 := v2) (by omega) u3p fs.length 0 _ (Nat.zero_add _) (by rw [List.length_append, List.length_append]; omega)
  simp only [List.drop_zero] at h6
  rw [u63]
  simp +contextual -dsimp (disch := omega) only [↓goDown, goUp, cr, simprocAttr, u19, u0m, low_Z, u08, strip_Z, u0t, h1, h2, h3, h4, h5, h6, u40]
theorem u8f {H : Heap} {v2 : PV} {l : List Int} (hl : l.length < 9000000) : ∀ (m i : Nat) (acc : List Int), i + m = l.length → acc.length + m < 2000000 →
    run (u16 v2 (accP 1 (l.map encI)) (accP 1 (acc.map encI)) (.int .i64 i)) H = some (.ok (accP 1 ((acc ++ pos (l.drop i)).map encI)) H)
  | 0, i, acc, h, ha => by
    rw [u29, List.drop_eq_nil_of_le (by omega), show pos [] = [] from rfl, List.append_nil]
    have c1 : ((i : Int) < l.length) = False := eq_false (by omega)
    simp +contextual -dsimp (disch := omega) only [↓goDown, goUp, cr, simprocAttr, u0x, u35, strip_Z, ln_Z, List.length_map, c1, u2o]
  | m + 1, i, acc, h, ha => by
    have hi : i < l.length := by omega
    have hd : l.drop i = l[i] :: l.drop (i + 1) := List.drop_eq_getElem_cons hi
    rw [u29, hd]
    have c1 : ((i : Int) < l.length) = True := eq_true (by omega)
    have hga : (l.map encI)[i]? = some (encI l[i]) := by simp [hi]
    have hia : ∀ K, run (iaS 1 (LZ true 1 (l.map encI)) (.int .i64 i)) K = some (.ok (.elem [.int .i64 l[i]]) K) := fun K => ia_Z hga
    by_cases h0 : 0 ≤ l[i]
    · have ih := u8f (H := H) (v2 := v2) hl m (i + 1) (acc ++ [l[i]]) (by omega) (by simp; omega)
      rw [List.append_assoc, List.singleton_append] at ih
      rw [show pos (l[i] :: l.drop (i + 1)) = l[i] :: pos (l.drop (i + 1)) from List.filter_cons_of_pos (decide_eq_true h0)]
      simp +contextual -dsimp (disch := omega) only [↓goDown, goUp, cr, simprocAttr, u0x, u35, strip_Z, ln_Z, List.length_map, c1, hia, eq_true h0, bsR_IG, ap_IG, u1w, ns]
      exact ih
    · have ih := u8f (H := H) (v2 := v2) hl m (i + 1) acc (by omega) (by omega)
      rw [show pos (l[i] :: l.drop (i + 1)) = pos (l.drop (i + 1)) from List.filter_cons_of_neg (by simpa using h0)]
      simp +contextual -dsimp (disch := omega) only [↓goDown, goUp, cr, simprocAttr, u0x, u35, strip_Z, ln_Z, List.length_map, c1, hia, eq_false h0, u1w, ns]
      exact ih
theorem um7 {H : Heap} {v : SG} (hm : nS v < 2000000) : run (C u1o [.agg (cs_SG v)]) H = some (.ok (accP 1 ((pos (allS v)).map encI)) H) := by
  have hl := ubb (v := v)
  have ha := fun K => all_is (H := K) hm
  have h := fun v2 K => u8f (H := K) (v2 := v2) (l := allS v) (by omega) (allS v).length 0 [] (Nat.zero_add _) (by simp; omega)
  simp only [List.drop_zero, List.nil_append, show ((0 : Nat) : Int) = 0 from rfl] at h
  have e0 : (accP 1 (([] : List Int).map encI)) = .slice false true 0 [] := rfl
  rw [e0] at h
  rw [u5l]
  unfold cs_SG at ha ⊢
  simp +contextual -dsimp (disch := omega) only [↓goDown, goUp, cr, simprocAttr, u19, u0m, low_Z, u08, strip_Z, u0t, ha, h, u40]
def tU (s : List Int) (a : Int) : List Int := if 0 ≤ a then s ++ [a] else s
theorem uk5 : ∀ (l s : List Int), l.foldl tU s = s ++ pos l
  | [], s => (List.append_nil _).symm
  | a :: l, s => by
    rw [List.foldl_cons, uk5 l]
    unfold tU
    by_cases h : 0 ≤ a
    · rw [if_pos h, show pos (a :: l) = a :: pos l from List.filter_cons_of_pos (decide_eq_true h), List.append_assoc]; rfl
    · rw [if_neg h, show pos (a :: l) = pos l from List.filter_cons_of_neg (by simpa using h)]
theorem turnU {c : Nat} {A : Heap} : Turn c A (.fn u2n [] [.ptr c 0]) (fun s : List Int => .cells [accP 1 (s.map encI)]) tU id (fun s n => s.length + n < 2000000) where
  call K s a n hA hs hI := by
    have hid := get_lt hs
    rw [u66]
    show run (C u2n [.int .i64 a, .ptr c 0]) K = _
    rw [u84]
    have hself := u5b hs
    have hg : ∀ x, hget (hset K c x) c = some x := fun x => u3i hid
    unfold tU
    by_cases h0 : 0 ≤ a
    · rw [if_pos h0]
      simp +contextual -dsimp (disch := omega) only [↓goDown, goUp, cr, simprocAttr, eq_true h0, hs, hg, bsR_IG, ap_IG, u3t, u3d, u40, u3b, u0x, u2o, u3l, id]
    · rw [if_neg h0, hself]
      simp +contextual -dsimp (disch := omega) only [↓goDown, goUp, cr, simprocAttr, eq_false h0, u3l, id]
  step s a n h := by
    unfold tU
    split
    · simp only [List.length_append, List.length_cons, List.length_nil]; omega
    · omega
  mono s n h := by omega
  st := by rfl
  sc := by rfl
  cl := by rfl
  cs := by rfl
  tup := by rfl
  low n h := by simp [low_fn, u45, u4i, ubv, h]
theorem pUses {H : Heap} {v : SG} (hm : nS v < 1900000) : run (C u52 [.agg (cs_SG v)]) H = some (.ok (accP 1 ((pos (allS v)).map encI)) H) := by
  have ht := fun X : Box => (u8b (H := hadd H [X, .cells [accP 1 (([] : List Int).map encI)]]) (A := hadd H [X]) (n := 0) (turnU (c := H.length + 1)) (by rw [u3s]; simp) (by
    have : hadd H [X, .cells [accP 1 (([] : List Int).map encI)]] = hadd (hadd H [X]) [.cells [accP 1 (([] : List Int).map encI)]] := by unfold hadd; simp
    rw [this]
    exact u98 (by rw [u3s]; rfl)) (s := []) (u41 1) (v := v) (by omega) (by simp; omega)).1
  have e0 : (accP 1 (([] : List Int).map encI)) = .slice false true 0 [] := rfl
  rw [tS_is, uk5, List.nil_append] at ht
  rw [e0] at ht
  rw [ubn]
  unfold cs_SG at ht ⊢
  simp +contextual -dsimp (disch := omega) only [↓goDown, goUp, cr, simprocAttr, u19, u0m, low_Z, u08, strip_Z, u0t, run_mf, ht, u3t, u3d, u40, u3b, u0x, u2o]
  all_goals rfl
end Go.Proofs.YtiiepllnnjjmaaaDoor.Pi.Q
namespace Go.Proofs.YtiiepllnnjjmaaaDoor.Pi.Q
open Go Go.Proofs.YtiiepllnnjjmaaaDoor.Pi
attribute [local congr] ite_congr
def tC (e : Int) (b : Bool) (h : Int) : Bool := (b && decide (h < e)) && decide (-12 ≤ h)
def okA (e : Int) (l : List Int) : Bool := l.all fun h => decide (h < e) && decide (-12 ≤ h)
def okP (l : List Int) : Bool := l.all fun h => decide (0 ≤ h)
def okT (e : Int) (v : SG) : Bool := okP v.sup.l && okA e (allS v)
theorem ujz {e : Int} : ∀ (l : List Int) (b : Bool), l.foldl (tC e) b = (b && okA e l)
  | [], b => by unfold okA; simp
  | a :: l, b => by
    rw [List.foldl_cons, ujz l]
    unfold okA tC
    rw [List.all_cons]
    simp only [Bool.and_assoc]
def cG (e : Nat) : List SG → Nat → Option Nat
  | [], _ => none
  | v :: l, n => if okT e v = true then cG e l (n + 1) else some n
def cL : List RG → Nat → Option Nat
  | [], _ => none
  | r :: l, n => match cG (n + r.types.l.length) r.types.l n with
    | some k => some k
    | none => cL l (n + r.types.l.length)
def cOut : Option Nat → PV
  | none => .tup [.int .i64 0, .int .i64 0]
  | some k => .tup [.int .i64 k, .int .i64 50]
def smallS (l : List SG) : Prop := l.length ≤ 1048576 ∧ ∀ s ∈ l, nS s ≤ 1048576
def nT (l : List RG) : Nat := sumL (fun r : RG => r.types.l.length) l
def smallR (l : List RG) : Prop := l.length ≤ 1048576 ∧ ∀ r ∈ l, smallS r.types.l
theorem turnC {c d : Nat} {A : Heap} {e : Int} (hd : hget A d = some (.cells [.int .i64 e])) (hdc : d < c) : Turn c A (.fn u2p [] [.ptr c 0, .ptr d 0]) (fun b : Bool => .cells [.bool b]) (tC e) id (fun _ _ => True) where
  call K s a n hA hs hI := by
    have hid := get_lt hs
    have hgd : hget K d = some (.cells [.int .i64 e]) := by
      rw [← hA] at hd
      unfold hget hcut at hd
      rw [List.getElem?_take_of_lt hdc] at hd
      exact hd
    rw [u66]
    show run (C u2p [.int .i64 a, .ptr c 0, .ptr d 0]) K = _
    rw [u6m]
    unfold tC
    cases s with
    | false =>
      simp +contextual -dsimp (disch := omega) only [↓goDown, goUp, cr, simprocAttr, hs, hgd, id, Bool.false_and]
    | true =>
      by_cases h1 : a < e
      · by_cases h2 : -12 ≤ a
        · simp +contextual -dsimp (disch := omega) only [↓goDown, goUp, cr, simprocAttr, hs, hgd, eq_true h1, eq_true h2, id, decide_true, Bool.true_and]
        · simp +contextual -dsimp (disch := omega) only [↓goDown, goUp, cr, simprocAttr, hs, hgd, eq_true h1, eq_false h2, id, decide_true, decide_false, Bool.true_and]
      · simp +contextual -dsimp (disch := omega) only [↓goDown, goUp, cr, simprocAttr, hs, hgd, eq_false h1, id, decide_false, Bool.true_and, Bool.false_and, Bool.and_false]
  step s a n h := trivial
  mono s n h := trivial
  st := by rfl
  sc := by rfl
  cl := by rfl
  cs := by rfl
  tup := by rfl
  low n h := by
    have h2 : d < n := by omega
    simp [low_fn, u45, u4i, ubv, h, h2]
theorem ucb {z : Bool} {l : List Int} {o : Nat} {v2 v3 v4 v5 v9 v13 v14 v15 v25 v26 v27 : PV} (hl : l.length ≤ 1048576) : ∀ (m j : Nat) (b : Bool) (K : Heap), j + m = l.length → hget K o = some (.cells [.bool b]) →
    run (u06 v2 v3 v4 v5 v9 (.ptr o 0) v13 v14 v15 v25 v26 v27 (LZ z 1 (l.map encI)) (.int .i64 l.length) (.int .i64 j)) K =
      run (u06 v2 v3 v4 v5 v9 (.ptr o 0) v13 v14 v15 v25 v26 v27 (LZ z 1 (l.map encI)) (.int .i64 l.length) (.int .i64 l.length)) (hset K o (.cells [.bool (b && okP (l.drop j))]))
  | 0, j, b, K, h, ho => by
    have hj : j = l.length := by omega
    subst hj
    have hs := u5b ho
    rw [List.drop_length, show okP [] = true from rfl, Bool.and_true, hs]
  | m + 1, j, b, K, h, ho => by
    have hi : j < l.length := by omega
    have hid := get_lt ho
    have hd : l.drop j = l[j] :: l.drop (j + 1) := List.drop_eq_getElem_cons hi
    have hp : okP (l.drop j) = (decide (0 ≤ l[j]) && okP (l.drop (j + 1))) := by rw [hd]; rfl
    have ih := ucb (z := z) (o := o) (v2 := v2) (v3 := v3) (v4 := v4) (v5 := v5) (v9 := v9) (v13 := v13) (v14 := v14) (v15 := v15) (v25 := v25) (v26 := v26) (v27 := v27) hl m (j + 1) (b && decide (0 ≤ l[j])) (hset K o (.cells [.bool (b && decide (0 ≤ l[j]))])) (by omega) (u3i hid)
    rw [set_set, Bool.and_assoc, ← hp] at ih
    rw [← ih, u0e]
    have c1 : ((j : Int) < l.length) = True := eq_true (by omega)
    have hga : (l.map encI)[j]? = some (encI l[j]) := by simp [hi]
    have hia : ∀ K, run (iaS 1 (LZ z 1 (l.map encI)) (.int .i64 j)) K = some (.ok (.elem [.int .i64 l[j]]) K) := fun K => ia_Z hga
    cases b with
    | false =>
      simp +contextual -dsimp (disch := omega) only [↓goDown, goUp, cr, simprocAttr, c1, hia, ho, Bool.false_and, ns]
      all_goals rfl
    | true =>
      by_cases h0 : 0 ≤ l[j]
      · simp +contextual -dsimp (disch := omega) only [↓goDown, goUp, cr, simprocAttr, c1, hia, ho, eq_true h0, decide_true, Bool.true_and, ns]
        all_goals rfl
      · simp +contextual -dsimp (disch := omega) only [↓goDown, goUp, cr, simprocAttr, c1, hia, ho, eq_false h0, decide_false, Bool.true_and, ns]
        all_goals rfl
structure Cd (H : Heap) (e : Nat) (K : Heap) : Prop where
  cut : hcut K H.length = H
  en : hget K H.length = some (.cells [.int .i64 e])
theorem Cd.more {H K : Heap} {e : Nat} (w : Cd H e K) {L : List Box} : Cd H e (hadd K L) := by
  have hid := get_lt w.en
  exact ⟨by rw [cut_le (by omega)]; exact w.cut, by rw [u2f hid]; exact w.en⟩
theorem uca {H : Heap} {z : Bool} {l : List SG} {e : Nat} {v2 v3 v13 v14 v15 : PV} (hl : smallS l) (he : e ≤ 1000000000000) : ∀ (m j n : Nat) (K : Heap), j + m = l.length → n + m ≤ 1000000000000 → Cd H e K →
    ∃ K', Cd H e K' ∧ truncR H (run (u0a v2 v3 (.int .i64 n) (.ptr H.length 0) v13 v14 v15 (LZ z 6 (l.map encSG)) (.int .i64 l.length) (.int .i64 j)) K) =
      match cG e (l.drop j) n with
      | some k => some (.ok (cOut (some k)) H)
      | none => truncR H (run (u0a v2 v3 (.int .i64 (n + m : Nat)) (.ptr H.length 0) v13 v14 v15 (LZ z 6 (l.map encSG)) (.int .i64 l.length) (.int .i64 l.length)) K')
  | 0, j, n, K, h, hn, w => by
    have hj : j = l.length := by omega
    subst hj
    refine ⟨K, w, ?_⟩
    rw [List.drop_length]
    rfl
  | m + 1, j, n, K, h, hn, w => by
    have hi : j < l.length := by omega
    have hd : l.drop j = l[j] :: l.drop (j + 1) := List.drop_eq_getElem_cons hi
    have hid := get_lt w.en
    have hsm := hl.2 _ (List.getElem_mem hi)
    obtain ⟨K', w', ih⟩ := uca (z := z) (v2 := v2) (v3 := v3) (v13 := v13) (v14 := v14) (v15 := v15) hl he m (j + 1) (n + 1) (hadd K [.cells (cs_SG l[j]), .cells [.bool (okT e l[j])]]) (by omega) (by omega) w.more
    refine ⟨K', w', ?_⟩
    have hsup : l[j].sup.l.length ≤ 1048576 := by unfold nS at hsm; omega
    have hs := fun v14 v15 => ucb (z := l[j].sup.z) (o := K.length + 1) (v2 := v2) (v3 := v3) (v4 := .int .i64 n) (v5 := .ptr H.length 0) (v9 := .ptr K.length 0) (v13 := v13) (v14 := v14) (v15 := v15) (v25 := LZ z 6 (l.map encSG)) (v26 := .int .i64 l.length) (v27 := .int .i64 j) hsup l[j].sup.l.length 0 true (hadd K [.cells (cs_SG l[j]), .cells [.bool true]]) (Nat.zero_add _) (u41 1)
    simp only [List.drop_zero, Bool.true_and, show ((0 : Nat) : Int) = 0 from rfl] at hs
    have ht := fun b => (u8b (H := hadd K [.cells (cs_SG l[j]), .cells [.bool b]]) (A := hadd K [.cells (cs_SG l[j])]) (c := K.length + 1) (n := 0) (turnC (d := H.length) (e := e) (by rw [u2f hid]; exact w.en) (by omega)) (by rw [u3s]; simp) (by
      have : hadd K [.cells (cs_SG l[j]), .cells [.bool b]] = hadd (hadd K [.cells (cs_SG l[j])]) [.cells [.bool b]] := by unfold hadd; simp
      rw [this]
      exact u98 (by rw [u3s]; rfl)) (s := b) (u41 1) (v := l[j]) (by omega) trivial).1
    simp only [tS_is, ujz] at ht
    have hcw := w.cut
    have hll := hl.1
    rw [hd, cG]
    have c1 : ((j : Int) < l.length) = True := eq_true (by omega)
    have hga : (l.map encSG)[j]? = some (encSG l[j]) := by simp [hi]
    have hia : ∀ K, run (iaS 6 (LZ z 6 (l.map encSG)) (.int .i64 j)) K = some (.ok (.elem (cs_SG l[j])) K) := fun K => ia_Z hga
    have e1 : ((l[j].sup.l.length : Int) < l[j].sup.l.length) = False := eq_false (by omega)
    have hk : ∀ L, Pi.hcut (hadd K L) H.length = H := fun L => by rw [cut_le (by omega)]; exact hcw
    have ho : okT e l[j] = (okP l[j].sup.l && okA e (allS l[j])) := rfl
    have ht := ht (okP l[j].sup.l)
    rw [← ho] at ht
    unfold cs_SG at hia hs ht ih
    simp only [u8o, List.set_cons_succ, List.set_cons_zero] at hs ht
    have hfin : ∀ v14 v15, run (u06 v2 v3 (.int .i64 n) (.ptr H.length 0) (.ptr K.length 0) (.ptr (K.length + 1) 0) v13 v14 v15 (LZ z 6 (l.map encSG)) (.int .i64 l.length) (.int .i64 j) (LZ l[j].sup.z 1 (l[j].sup.l.map encI)) (.int .i64 l[j].sup.l.length) (.int .i64 0)) _ = _ := hs
    cases hc : okT e l[j] with
    | true =>
      rw [hc] at ht ih
      rw [if_pos rfl, show n + (m + 1) = n + 1 + m by omega]
      refine Eq.trans ?_ ih
      rw [u13]
      simp +contextual -dsimp (disch := omega) only [↓goDown, goUp, cr, simprocAttr, c1, hia, hfin, u19, u0m, low_Z, u08, strip_Z, u0t, ln_Z, List.length_map]
      rw [u0e]
      simp +contextual -dsimp (disch := omega) only [↓goDown, goUp, cr, simprocAttr, e1, ht, run_mf, un_not, Bool.not_true, u19, u0m, low_Z, u08, strip_Z, u0t, ns]
      all_goals rfl
    | false =>
      rw [hc] at ht
      rw [if_neg (by simp)]
      rw [u13]
      simp +contextual -dsimp (disch := omega) only [↓goDown, goUp, cr, simprocAttr, c1, hia, hfin, u19, u0m, low_Z, u08, strip_Z, u0t, ln_Z, List.length_map]
      rw [u0e]
      simp +contextual -dsimp (disch := omega) only [↓goDown, goUp, cr, simprocAttr, e1, ht, hk, run_mf, un_not, Bool.not_false, u19, u0m, low_Z, u08, strip_Z, u0t, cOut]
theorem u9i {H : Heap} {z : Bool} {l : List RG} {v2 v3 : PV} (hl : smallR l) : ∀ (m i n : Nat) (K : Heap), i + m = l.length → n + nT (l.drop i) ≤ 100000000000 → Cd H n K →
    truncR H (run (u1j v2 v3 (.int .i64 n) (.ptr H.length 0) (LZ z 2 (l.map encRG)) (.int .i64 l.length) (.int .i64 i)) K) = some (.ok (cOut (cL (l.drop i) n)) H)
  | 0, i, n, K, h, hn, w => by
    have c1 : ((i : Int) < l.length) = False := eq_false (by omega)
    have hcw := w.cut
    rw [u33, List.drop_eq_nil_of_le (by omega), cL]
    simp +contextual -dsimp (disch := omega) only [↓goDown, goUp, cr, simprocAttr, c1, hcw, cOut]
  | m + 1, i, n, K, h, hn, w => by
    have hi : i < l.length := by omega
    have hd : l.drop i = l[i] :: l.drop (i + 1) := List.drop_eq_getElem_cons hi
    have hid := get_lt w.en
    have hg := w.en
    have hcw := w.cut
    have hsm := hl.2 _ (List.getElem_mem hi)
    have hll := hl.1
    have hl1 := hsm.1
    have hnT : nT (l.drop i) = l[i].types.l.length + nT (l.drop (i + 1)) := by rw [hd]; rfl
    rw [hnT] at hn
    have w1 : Cd H (n + l[i].types.l.length) (hadd (hset K H.length (.cells [.int .i64 (n + l[i].types.l.length : Nat)])) [.cells (cs_RG l[i])]) := by
      refine ⟨?_, ?_⟩
      · rw [cut_le (by rw [u12]; omega), u2y (Nat.le_refl _)]; exact hcw
      · rw [u4h hid, u3i hid]
    obtain ⟨K', w', hgp⟩ := uca (z := l[i].types.z) (v2 := v2) (v3 := v3) (v13 := LZ z 2 (l.map encRG)) (v14 := .int .i64 l.length) (v15 := .int .i64 i) hsm (by omega) l[i].types.l.length 0 n _ (Nat.zero_add _) (by omega) w1
    rw [List.drop_zero] at hgp
    have c1 : ((i : Int) < l.length) = True := eq_true (by omega)
    have hga : (l.map encRG)[i]? = some (encRG l[i]) := by simp [hi]
    have hia : ∀ K, run (iaS 2 (LZ z 2 (l.map encRG)) (.int .i64 i)) K = some (.ok (.elem (cs_RG l[i])) K) := fun K => ia_Z hga
    have hk : ∀ x L, Pi.hcut (hadd (hset K H.length x) L) H.length = H := fun x L => by rw [cut_le (by rw [u12]; omega), u2y (Nat.le_refl _)]; exact hcw
    have hq1 : ∀ L, hget (hadd K L) H.length = some (.cells [.int .i64 n]) := fun L => by rw [u2f hid]; exact hg
    have hq2 : ∀ x L, hset (hadd K L) H.length x = hadd (hset K H.length x) L := fun x L => u6q hid
    have hstart : run (u1j v2 v3 (.int .i64 n) (.ptr H.length 0) (LZ z 2 (l.map encRG)) (.int .i64 l.length) (.int .i64 i)) K = run (u0a v2 v3 (.int .i64 n) (.ptr H.length 0) (LZ z 2 (l.map encRG)) (.int .i64 l.length) (.int .i64 i) (LZ l[i].types.z 6 (l[i].types.l.map encSG)) (.int .i64 l[i].types.l.length) (.int .i64 (0 : Nat))) (hadd (hset K H.length (.cells [.int .i64 (n + l[i].types.l.length : Nat)])) [.cells (cs_RG l[i])]) := by
      unfold cs_RG at hia ⊢
      rw [u33]
      simp +contextual -dsimp (disch := omega) only [↓goDown, goUp, cr, simprocAttr, c1, hia, hq1, hq2, u2m, u19, u0m, low_Z, u08, strip_Z, u0t, ln_Z, List.length_map, Int.natCast_add]
      all_goals rfl
    rw [hstart, hgp, hd, cL]
    cases hc : cG (n + l[i].types.l.length) l[i].types.l n with
    | some k => rfl
    | none =>
      simp only
      have ih := u9i (z := z) (v2 := v2) (v3 := v3) hl m (i + 1) (n + l[i].types.l.length) K' (by omega) (by omega) w'
      rw [← ih]
      have e1 : ((l[i].types.l.length : Int) < l[i].types.l.length) = False := eq_false (by omega)
      rw [u13]
      simp +contextual -dsimp (disch := omega) only [↓goDown, goUp, cr, simprocAttr, e1, ns]
      all_goals rfl
theorem umk {H : Heap} {z : Bool} {l : List RG} (hl : smallR l) (hn : nT l ≤ 100000000000) : run (C u2c [LZ z 2 (l.map encRG)]) H = some (.ok (cOut (cL l 0)) H) := by
  have h := fun v2 v3 => u9i (H := H) (z := z) (v2 := v2) (v3 := v3) hl l.length 0 0 (hadd H [.cells [.int .i64 0]]) (Nat.zero_add _) (by rw [List.drop_zero]; omega) ⟨cutA0, u3p⟩
  simp only [List.drop_zero, show ((0 : Nat) : Int) = 0 from rfl] at h
  rw [u8m]
  simp +contextual -dsimp (disch := omega) only [↓goDown, goUp, cr, simprocAttr, strip_Z, ln_Z, List.length_map, h]
end Go.Proofs.YtiiepllnnjjmaaaDoor.Pi.Q
namespace Go.Proofs.YtiiepllnnjjmaaaDoor.Pi.Q
open Go Go.Proofs.YtiiepllnnjjmaaaDoor.Pi
attribute [local congr] ite_congr
def okB (e : Int) (l : List Int) : Bool := l.all fun h => decide (0 ≤ h) && decide (h < e)
theorem ugp {e a : Int} {l : List Int} : okB e (a :: l) = ((decide (0 ≤ a) && decide (a < e)) && okB e l) := rfl
theorem ug1 {e a : Int} {l : List Int} : okA e (a :: l) = ((decide (a < e) && decide (-12 ≤ a)) && okA e l) := rfl
theorem okB_is {e : Int} : ∀ (l r : List Int), (okB e l && okA e (l ++ r)) = (okP l && okA e (l ++ r))
  | [], r => rfl
  | a :: l, r => by
    have h := okB_is (e := e) l r
    rw [List.cons_append, ugp, ug1, show okP (a :: l) = (decide (0 ≤ a) && okP l) from rfl]
    cases decide (0 ≤ a) <;> cases decide (a < e) <;> cases decide (-12 ≤ a) <;> simp_all
theorem okT_is {e : Int} {v : SG} : okT e v = (okB e v.sup.l && okA e (allS v)) := by
  unfold okT allS
  rw [List.append_assoc, List.append_assoc]
  exact (okB_is _ _).symm
theorem uai {H : Heap} {e : Int} {v4 : PV} {l : List Int} (hl : l.length < 9000000) : ∀ (m i : Nat), i + m = l.length →
    run (u15 (.int .i64 e) v4 (accP 1 (l.map encI)) (.int .i64 i)) H = some (.ok (.bool (okA e (l.drop i))) H)
  | 0, i, h => by
    rw [u2b, List.drop_eq_nil_of_le (by omega), show okA e [] = true from rfl]
    have c1 : ((i : Int) < l.length) = False := eq_false (by omega)
    simp +contextual -dsimp (disch := omega) only [↓goDown, goUp, cr, simprocAttr, u0x, u35, strip_Z, ln_Z, List.length_map, c1]
  | m + 1, i, h => by
    have hi : i < l.length := by omega
    have hd : l.drop i = l[i] :: l.drop (i + 1) := List.drop_eq_getElem_cons hi
    have ih := uai (H := H) (e := e) (v4 := v4) hl m (i + 1) (by omega)
    rw [u2b, hd, ug1]
    have c1 : ((i : Int) < l.length) = True := eq_true (by omega)
    have hga : (l.map encI)[i]? = some (encI l[i]) := by simp [hi]
    have hia : ∀ K, run (iaS 1 (LZ true 1 (l.map encI)) (.int .i64 i)) K = some (.ok (.elem [.int .i64 l[i]]) K) := fun K => ia_Z hga
    by_cases h1 : l[i] < e
    · have g1 : (e ≤ l[i]) = False := eq_false (by omega)
      by_cases h2 : -12 ≤ l[i]
      · have g2 : (l[i] < -12) = False := eq_false (by omega)
        rw [decide_eq_true h1, decide_eq_true h2]
        simp +contextual -dsimp (disch := omega) only [↓goDown, goUp, cr, simprocAttr, u0x, u35, strip_Z, ln_Z, List.length_map, c1, hia, g1, g2, Bool.true_and, ns]
        exact ih
      · have g2 : (l[i] < -12) = True := eq_true (by omega)
        rw [decide_eq_true h1, decide_eq_false h2]
        simp +contextual -dsimp (disch := omega) only [↓goDown, goUp, cr, simprocAttr, u0x, u35, strip_Z, ln_Z, List.length_map, c1, hia, g1, g2, Bool.true_and, Bool.false_and]
    · have g1 : (e ≤ l[i]) = True := eq_true (by omega)
      rw [decide_eq_false h1]
      simp +contextual -dsimp (disch := omega) only [↓goDown, goUp, cr, simprocAttr, u0x, u35, strip_Z, ln_Z, List.length_map, c1, hia, g1, Bool.false_and]
theorem uaw {H : Heap} {e : Int} {v4 : PV} {j : Nat} {v : SG} (hm : nS v < 2000000) (hj : hget H j = some (.cells (cs_SG v))) : ∀ (m i : Nat), i + m = v.sup.l.length →
    run (u1d (.int .i64 e) (.ptr j 0) v4 (.int .i64 i)) H = some (.ok (.bool (okB e (v.sup.l.drop i) && okA e (allS v))) H)
  | 0, i, h => by
    have hal := ubb (v := v)
    have ha := fun K => all_is (H := K) hm
    have hf := uai (H := H) (e := e) (v4 := v4) (l := allS v) (by omega) (allS v).length 0 (Nat.zero_add _)
    rw [List.drop_zero, show ((0 : Nat) : Int) = 0 from rfl] at hf
    unfold cs_SG at hj ha
    rw [u2e, List.drop_eq_nil_of_le (by omega), show okB e [] = true from rfl, Bool.true_and]
    have c1 : ((i : Int) < v.sup.l.length) = False := eq_false (by omega)
    simp +contextual -dsimp (disch := omega) only [↓goDown, goUp, cr, simprocAttr, hj, u19, u0m, low_Z, u08, strip_Z, u0t, ln_Z, List.length_map, c1, ha]
    exact hf
  | m + 1, i, h => by
    have hi : i < v.sup.l.length := by omega
    have hnS : v.sup.l.length ≤ nS v := by unfold nS; omega
    have hd : v.sup.l.drop i = v.sup.l[i] :: v.sup.l.drop (i + 1) := List.drop_eq_getElem_cons hi
    have ih := uaw (e := e) (v4 := v4) hm hj m (i + 1) (by omega)
    unfold cs_SG at hj
    rw [u2e, hd, ugp, Bool.and_assoc]
    have c1 : ((i : Int) < v.sup.l.length) = True := eq_true (by omega)
    have hga : (v.sup.l.map encI)[i]? = some (encI v.sup.l[i]) := by simp [hi]
    have hia : ∀ K, run (iaS 1 (LZ v.sup.z 1 (v.sup.l.map encI)) (.int .i64 i)) K = some (.ok (.elem [.int .i64 v.sup.l[i]]) K) := fun K => ia_Z hga
    by_cases h1 : 0 ≤ v.sup.l[i]
    · have g1 : (v.sup.l[i] < 0) = False := eq_false (by omega)
      by_cases h2 : v.sup.l[i] < e
      · have g2 : (e ≤ v.sup.l[i]) = False := eq_false (by omega)
        rw [decide_eq_true h1, decide_eq_true h2]
        simp +contextual -dsimp (disch := omega) only [↓goDown, goUp, cr, simprocAttr, hj, strip_Z, u08, ln_Z, List.length_map, c1, hia, g1, g2, Bool.true_and, ns]
        exact ih
      · have g2 : (e ≤ v.sup.l[i]) = True := eq_true (by omega)
        rw [decide_eq_true h1, decide_eq_false h2]
        simp +contextual -dsimp (disch := omega) only [↓goDown, goUp, cr, simprocAttr, hj, strip_Z, u08, ln_Z, List.length_map, c1, hia, g1, g2, Bool.true_and, Bool.false_and]
    · have g1 : (v.sup.l[i] < 0) = True := eq_true (by omega)
      rw [decide_eq_false h1]
      simp +contextual -dsimp (disch := omega) only [↓goDown, goUp, cr, simprocAttr, hj, strip_Z, u08, ln_Z, List.length_map, c1, hia, g1, Bool.false_and]
theorem umg {H : Heap} {e : Int} {v : SG} (hm : nS v < 2000000) : run (C u1n [.agg (cs_SG v), .int .i64 e]) H = some (.ok (.bool (okT e v)) H) := by
  have h := fun v4 => uaw (H := hadd H [.cells (cs_SG v)]) (e := e) (v4 := v4) hm u3p v.sup.l.length 0 (Nat.zero_add _)
  rw [List.drop_zero, ← okT_is, show ((0 : Nat) : Int) = 0 from rfl] at h
  rw [u5m]
  unfold cs_SG at h ⊢
  simp +contextual -dsimp (disch := omega) only [↓goDown, goUp, cr, simprocAttr, u19, u0m, low_Z, u08, strip_Z, u0t, h]
theorem uc3 {H : Heap} {z : Bool} {l : List RG} {i n : Nat} {v2 v3 : PV} (hl : smallR l) (hi : i < l.length) (hn : n ≤ 100000000000) : ∀ (m j : Nat), j + m = l[i].types.l.length →
    run (u0d (LZ z 2 (l.map encRG)) v2 v3 (.int .i64 n) (.int .i64 i) (.int .i64 (n + l[i].types.l.length : Nat)) (.int .i64 j)) H =
      match cG (n + l[i].types.l.length) (l[i].types.l.drop j) (n + j) with
      | some k => some (.ok (cOut (some k)) H)
      | none => run (u0k (LZ z 2 (l.map encRG)) v2 v3 (.int .i64 (n + l[i].types.l.length : Nat)) (.int .i64 (i + 1 : Nat))) H
  | 0, j, h => by
    have hll := hl.1
    rw [u1e, List.drop_eq_nil_of_le (by omega), cG]
    have c1 : ((j : Int) < l[i].types.l.length) = False := eq_false (by omega)
    have hga : (l.map encRG)[i]? = some (encRG l[i]) := by simp [hi]
    have hia : ∀ K, run (iaS 2 (LZ z 2 (l.map encRG)) (.int .i64 i)) K = some (.ok (.elem (cs_RG l[i])) K) := fun K => ia_Z hga
    unfold cs_RG at hia
    simp +contextual -dsimp (disch := omega) only [↓goDown, goUp, cr, simprocAttr, hia, strip_Z, u08, ln_Z, List.length_map, c1, ns]
    all_goals rfl
  | m + 1, j, h => by
    have hll := hl.1
    have hsm := hl.2 _ (List.getElem_mem hi)
    have hl1 := hsm.1
    have hj : j < l[i].types.l.length := by omega
    have hd : l[i].types.l.drop j = l[i].types.l[j] :: l[i].types.l.drop (j + 1) := List.drop_eq_getElem_cons hj
    have ih := uc3 (H := H) (z := z) (v2 := v2) (v3 := v3) hl hi hn m (j + 1) (by omega)
    have hns := hsm.2 _ (List.getElem_mem hj)
    rw [u1e, hd, cG]
    have c1 : ((j : Int) < l[i].types.l.length) = True := eq_true (by omega)
    have hga : (l.map encRG)[i]? = some (encRG l[i]) := by simp [hi]
    have hia : ∀ K, run (iaS 2 (LZ z 2 (l.map encRG)) (.int .i64 i)) K = some (.ok (.elem (cs_RG l[i])) K) := fun K => ia_Z hga
    have hgb : (l[i].types.l.map encSG)[j]? = some (encSG l[i].types.l[j]) := by simp [hj]
    have hib : ∀ K, run (iaS 6 (LZ l[i].types.z 6 (l[i].types.l.map encSG)) (.int .i64 j)) K = some (.ok (.elem (cs_SG l[i].types.l[j])) K) := fun K => ia_Z hgb
    have hf := fun K => umg (H := K) (e := (n + l[i].types.l.length : Nat)) (v := l[i].types.l[j]) (by omega)
    unfold cs_RG at hia
    unfold cs_SG at hib hf
    cases hc : okT (n + l[i].types.l.length : Nat) l[i].types.l[j] with
    | true =>
      rw [hc] at hf
      rw [if_pos rfl]
      refine Eq.trans ?_ ih
      simp +contextual -dsimp (disch := omega) only [↓goDown, goUp, cr, simprocAttr, hia, hib, hf, un_not, Bool.not_true, strip_Z, u08, ln_Z, List.length_map, c1, ns]
      all_goals rfl
    | false =>
      rw [hc] at hf
      rw [if_neg (by simp)]
      simp +contextual -dsimp (disch := omega) only [↓goDown, goUp, cr, simprocAttr, hia, hib, hf, un_not, Bool.not_false, strip_Z, u08, ln_Z, List.length_map, c1, cOut]
      all_goals rfl
theorem u75 {H : Heap} {z : Bool} {l : List RG} {v2 v3 : PV} (hl : smallR l) : ∀ (m i n : Nat), i + m = l.length → n + nT (l.drop i) ≤ 100000000000 →
    run (u0k (LZ z 2 (l.map encRG)) v2 v3 (.int .i64 n) (.int .i64 i)) H = some (.ok (cOut (cL (l.drop i) n)) H)
  | 0, i, n, h, hn => by
    have c1 : ((i : Int) < l.length) = False := eq_false (by omega)
    rw [u22, List.drop_eq_nil_of_le (by omega), cL]
    simp +contextual -dsimp (disch := omega) only [↓goDown, goUp, cr, simprocAttr, strip_Z, ln_Z, List.length_map, c1, cOut]
  | m + 1, i, n, h, hn => by
    have hi : i < l.length := by omega
    have hd : l.drop i = l[i] :: l.drop (i + 1) := List.drop_eq_getElem_cons hi
    have hsm := hl.2 _ (List.getElem_mem hi)
    have hl1 := hsm.1
    have hll := hl.1
    have hnT : nT (l.drop i) = l[i].types.l.length + nT (l.drop (i + 1)) := by rw [hd]; rfl
    rw [hnT] at hn
    have hg := uc3 (H := H) (z := z) (v2 := v2) (v3 := v3) (n := n) hl hi (by omega) l[i].types.l.length 0 (Nat.zero_add _)
    have ih := u75 (H := H) (z := z) (v2 := v2) (v3 := v3) hl m (i + 1) (n + l[i].types.l.length) (by omega) (by omega)
    rw [ih, List.drop_zero, Nat.add_zero] at hg
    have c1 : ((i : Int) < l.length) = True := eq_true (by omega)
    have hga : (l.map encRG)[i]? = some (encRG l[i]) := by simp [hi]
    have hia : ∀ K, run (iaS 2 (LZ z 2 (l.map encRG)) (.int .i64 i)) K = some (.ok (.elem (cs_RG l[i])) K) := fun K => ia_Z hga
    have hr : cL (l.drop i) n = match cG (n + l[i].types.l.length) l[i].types.l n with
      | some k => some k
      | none => cL (l.drop (i + 1)) (n + l[i].types.l.length) := by rw [hd]; rfl
    have he : some (Out.ok (cOut (cL (l.drop i) n)) H) = (match cG (n + l[i].types.l.length) l[i].types.l n with
      | some k => some (.ok (cOut (some k)) H)
      | none => some (.ok (cOut (cL (l.drop (i + 1)) (n + l[i].types.l.length))) H)) := by
      rw [hr]
      cases cG (n + l[i].types.l.length) l[i].types.l n <;> rfl
    rw [he, ← hg, u22]
    unfold cs_RG at hia
    simp +contextual -dsimp (disch := omega) only [↓goDown, goUp, cr, simprocAttr, hia, strip_Z, u08, ln_Z, List.length_map, c1, ns]
    all_goals rfl
theorem uii {H : Heap} {z : Bool} {l : List RG} (hl : smallR l) (hn : nT l ≤ 100000000000) : run (C u1c [LZ z 2 (l.map encRG)]) H = some (.ok (cOut (cL l 0)) H) := by
  have h := fun v2 v3 => u75 (H := H) (z := z) (v2 := v2) (v3 := v3) hl l.length 0 0 (Nat.zero_add _) (by rw [List.drop_zero]; omega)
  simp only [List.drop_zero, show ((0 : Nat) : Int) = 0 from rfl] at h
  have hlow : ∀ o n, (cOut o).low n = true := fun o n => by cases o <;> simp [cOut, ueh, u45, u4i, ub9]
  rw [u4m]
  simp +contextual -dsimp (disch := omega) only [↓goDown, goUp, cr, simprocAttr, h, hlow]
theorem u8r {H : Heap} {z : Bool} {l : List RG} {v2 : PV} (hl : smallR l) : ∀ (m i n : Nat) (K : Heap), i + m = l.length → n + nT (l.drop i) ≤ 100000000000 → H.length ≤ K.length → hcut K H.length = H →
    truncR H (run (u25 v2 (.int .i64 n) (LZ z 2 (l.map encRG)) (.int .i64 l.length) (.int .i64 i)) K) = some (.ok (.int .i64 (n + nT (l.drop i) : Nat)) H)
  | 0, i, n, K, h, hn, hK, hcw => by
    have c1 : ((i : Int) < l.length) = False := eq_false (by omega)
    rw [u39, List.drop_eq_nil_of_le (by omega), show nT [] = 0 from rfl, Nat.add_zero]
    simp +contextual -dsimp (disch := omega) only [↓goDown, goUp, cr, simprocAttr, c1, hcw]
  | m + 1, i, n, K, h, hn, hK, hcw => by
    have hi : i < l.length := by omega
    have hd : l.drop i = l[i] :: l.drop (i + 1) := List.drop_eq_getElem_cons hi
    have hl1 := (hl.2 _ (List.getElem_mem hi)).1
    have hll := hl.1
    have hnT : nT (l.drop i) = l[i].types.l.length + nT (l.drop (i + 1)) := by rw [hd]; rfl
    rw [hnT] at hn ⊢
    have ih := u8r (H := H) (z := z) (v2 := v2) hl m (i + 1) (n + l[i].types.l.length) (hadd K [.cells (cs_RG l[i])]) (by omega) (by omega) (by rw [u3s]; omega) (by rw [cut_le hK]; exact hcw)
    rw [← Nat.add_assoc, ← ih]
    have c1 : ((i : Int) < l.length) = True := eq_true (by omega)
    have hga : (l.map encRG)[i]? = some (encRG l[i]) := by simp [hi]
    have hia : ∀ K, run (iaS 2 (LZ z 2 (l.map encRG)) (.int .i64 i)) K = some (.ok (.elem (cs_RG l[i])) K) := fun K => ia_Z hga
    rw [u39]
    unfold cs_RG at hia ⊢
    simp +contextual -dsimp (disch := omega) only [↓goDown, goUp, cr, simprocAttr, hia, u19, u0m, low_Z, strip_Z, u08, u0t, ln_Z, List.length_map, c1, ns]
    all_goals rfl
theorem pCount {H : Heap} {z : Bool} {l : List RG} (hl : smallR l) (hn : nT l ≤ 100000000000) : run (C u3m [LZ z 2 (l.map encRG)]) H = some (.ok (.int .i64 (nT l)) H) := by
  have h := fun v2 => u8r (H := H) (z := z) (v2 := v2) hl l.length 0 0 H (Nat.zero_add _) (by rw [List.drop_zero]; omega) (Nat.le_refl _) cut0
  simp only [List.drop_zero, Nat.zero_add, show ((0 : Nat) : Int) = 0 from rfl] at h
  rw [u9x]
  simp +contextual -dsimp (disch := omega) only [↓goDown, goUp, cr, simprocAttr, strip_Z, ln_Z, List.length_map, h]
theorem u91 {H : Heap} {z : Bool} {l : List RG} {v2 : PV} (hl : smallR l) : ∀ (m i n : Nat), i + m = l.length → n + nT (l.drop i) ≤ 100000000000 →
    run (u14 (LZ z 2 (l.map encRG)) v2 (.int .i64 n) (.int .i64 i)) H = some (.ok (.int .i64 (n + nT (l.drop i) : Nat)) H)
  | 0, i, n, h, hn => by
    have c1 : ((i : Int) < l.length) = False := eq_false (by omega)
    rw [u28, List.drop_eq_nil_of_le (by omega), show nT [] = 0 from rfl, Nat.add_zero]
    simp +contextual -dsimp (disch := omega) only [↓goDown, goUp, cr, simprocAttr, strip_Z, ln_Z, List.length_map, c1]
  | m + 1, i, n, h, hn => by
    have hi : i < l.length := by omega
    have hd : l.drop i = l[i] :: l.drop (i + 1) := List.drop_eq_getElem_cons hi
    have hl1 := (hl.2 _ (List.getElem_mem hi)).1
    have hll := hl.1
    have hnT : nT (l.drop i) = l[i].types.l.length + nT (l.drop (i + 1)) := by rw [hd]; rfl
    rw [hnT] at hn ⊢
    have ih := u91 (H := H) (z := z) (v2 := v2) hl m (i + 1) (n + l[i].types.l.length) (by omega) (by omega)
    rw [← Nat.add_assoc, ← ih]
    have c1 : ((i : Int) < l.length) = True := eq_true (by omega)
    have hga : (l.map encRG)[i]? = some (encRG l[i]) := by simp [hi]
    have hia : ∀ K, run (iaS 2 (LZ z 2 (l.map encRG)) (.int .i64 i)) K = some (.ok (.elem (cs_RG l[i])) K) := fun K => ia_Z hga
    rw [u28]
    unfold cs_RG at hia
    simp +contextual -dsimp (disch := omega) only [↓goDown, goUp, cr, simprocAttr, hia, strip_Z, u08, ln_Z, List.length_map, c1, ns]
    all_goals rfl
theorem ul6 {H : Heap} {z : Bool} {l : List RG} (hl : smallR l) (hn : nT l ≤ 100000000000) : run (C u1y [LZ z 2 (l.map encRG)]) H = some (.ok (.int .i64 (nT l)) H) := by
  have h := fun v2 => u91 (H := H) (z := z) (v2 := v2) hl l.length 0 0 (Nat.zero_add _) (by rw [List.drop_zero]; omega)
  simp only [List.drop_zero, Nat.zero_add, show ((0 : Nat) : Int) = 0 from rfl] at h
  rw [u4x]
  simp +contextual -dsimp (disch := omega) only [↓goDown, goUp, cr, simprocAttr, h]
end Go.Proofs.YtiiepllnnjjmaaaDoor.Pi.Q
namespace Go.Proofs.YtiiepllnnjjmaaaDoor.Pi.Q
open Go Go.Proofs.YtiiepllnnjjmaaaDoor.Pi
attribute [local congr] ite_congr
def atL : List RG → Nat → Nat → Option (SG × Nat × Nat)
  | [], _, _ => none
  | r :: l, n, k => if h : n < r.types.l.length then some (r.types.l[n], k, n) else atL l (n - r.types.l.length) (k + 1)
theorem atL_in : ∀ (l : List RG) (n k : Nat) (s : SG) (a b : Nat), atL l n k = some (s, a, b) → ∃ r ∈ l, s ∈ r.types.l
  | [], n, k, s, a, b, h => by cases h
  | r :: l, n, k, s, a, b, h => by
    rw [atL] at h
    split at h
    · cases h
      exact ⟨r, List.mem_cons_self, List.getElem_mem _⟩
    · obtain ⟨r', h1, h2⟩ := atL_in l _ _ _ _ _ h
      exact ⟨r', List.mem_cons_of_mem _ h1, h2⟩
def zS : List PV := [.bool false, .slice false true 0 [], .int .i64 0, .slice false true 0 [], .slice false true 0 [], .slice false true 0 []]
def pOut : Option (SG × Nat × Nat) → PV
  | none => .tup [.agg zS, .int .i64 0, .int .i64 0, .int .i64 50]
  | some (s, k, n) => .tup [.agg (cs_SG (gS id s)), .int .i64 k, .int .i64 n, .int .i64 0]
def rOut : Option (SG × Nat × Nat) → PV
  | none => .tup [.agg zS, .int .i64 0, .int .i64 0, .bool false]
  | some (s, k, n) => .tup [.agg (cs_SG s), .int .i64 k, .int .i64 n, .bool true]
theorem turnI {A : Heap} {b : Box} {c : Nat} : Turn c A (.fn u2v [] []) (fun _ : Unit => b) (fun _ _ => ()) id (fun _ _ => True) where
  call K s a n hA hs hI := by
    rw [u66]
    show run (C u2v [.int .i64 a]) K = _
    rw [ubh, u5b hs]
    simp +contextual -dsimp (disch := omega) only [↓goDown, goUp, cr, simprocAttr, id]
  step s a n h := trivial
  mono s n h := trivial
  st := by rfl
  sc := by rfl
  cl := by rfl
  cs := by rfl
  tup := by rfl
  low n h := by simp [low_fn, u4i]
theorem uia {K : Heap} {v : SG} {c : Nat} {b : Box} (hb : hget K c = some b) (hm : nS v < 2000000) : run (C u0r [.agg (cs_SG v), .fn u2v [] []]) K = some (.ok (.agg (cs_SG (gS id v))) K) := by
  have h := (u8b (H := K) (A := hcut K c) (c := c) (n := 0) (turnI (b := b)) (get_lt hb) rfl (s := ()) hb hm trivial).1
  rw [h, u5b hb]
theorem at11 {H K : Heap} {v5 v6 v7 : PV} {cs : List PV} (hg : hget K H.length = some (.cells cs)) (hcs : cs.length = 6) (hcw : hcut K H.length = H) : truncR H (run (u37 (.ptr H.length 0) v5 v6 v7) K) = some (.ok (pOut none) H) := by
  have hid := get_lt hg
  obtain ⟨a0, a1, a2, a3, a4, a5, rfl⟩ : ∃ a0 a1 a2 a3 a4 a5, cs = [a0, a1, a2, a3, a4, a5] := by
    match cs, hcs with
    | [a0, a1, a2, a3, a4, a5], _ => exact ⟨a0, a1, a2, a3, a4, a5, rfl⟩
  have hg2 : ∀ x, hget (hset K H.length x) H.length = some x := fun x => u3i hid
  have hk : ∀ x, hcut (hset K H.length x) H.length = H := fun x => (u2y (Nat.le_refl _)).trans hcw
  rw [u7i]
  simp +contextual -dsimp (disch := omega) only [↓goDown, goUp, cr, simprocAttr, hg, hg2, hk, pOut, zS]
  all_goals rfl
theorem ufp {H : Heap} {z : Bool} {l : List RG} {v5 v6 v7 : PV} (hl : smallR l) : ∀ (m i n : Nat) (K : Heap), i + m = l.length → n ≤ 9223372036854775807 → hget K H.length = some (.cells zS) → hcut K H.length = H →
    truncR H (run (u2g (.int .i64 n) (.ptr H.length 0) v5 v6 v7 (LZ z 2 (l.map encRG)) (.int .i64 l.length) (.int .i64 i)) K) = some (.ok (pOut (atL (l.drop i) n i)) H)
  | 0, i, n, K, h, hn, hg, hcw => by
    have c1 : ((i : Int) < l.length) = False := eq_false (by omega)
    rw [List.drop_eq_nil_of_le (by omega), atL, ← at11 (v5 := v5) (v6 := v6) (v7 := v7) hg rfl hcw, u2k]
    simp +contextual -dsimp (disch := omega) only [↓goDown, goUp, cr, simprocAttr, c1]
  | m + 1, i, n, K, h, hn, hg, hcw => by
    have hi : i < l.length := by omega
    have hid := get_lt hg
    have hd : l.drop i = l[i] :: l.drop (i + 1) := List.drop_eq_getElem_cons hi
    have hsm := hl.2 _ (List.getElem_mem hi)
    have hl1 := hsm.1
    have hll := hl.1
    have c1 : ((i : Int) < l.length) = True := eq_true (by omega)
    have hga : (l.map encRG)[i]? = some (encRG l[i]) := by simp [hi]
    have hia : ∀ K, run (iaS 2 (LZ z 2 (l.map encRG)) (.int .i64 i)) K = some (.ok (.elem (cs_RG l[i])) K) := fun K => ia_Z hga
    have hq1 : ∀ L, hget (hadd K L) H.length = some (.cells zS) := fun L => by rw [u2f hid]; exact hg
    have hk : ∀ L, hcut (hadd K L) H.length = H := fun L => by rw [cut_le (by omega)]; exact hcw
    rw [hd, atL]
    by_cases hlt : n < l[i].types.l.length
    · rw [dif_pos hlt]
      have c2 : ((n : Int) < l[i].types.l.length) = True := eq_true (by omega)
      have hgb : (l[i].types.l.map encSG)[n]? = some (encSG l[i].types.l[n]) := by simp [hlt]
      have hib : ∀ K, run (iaS 6 (LZ l[i].types.z 6 (l[i].types.l.map encSG)) (.int .i64 n)) K = some (.ok (.elem (cs_SG l[i].types.l[n])) K) := fun K => ia_Z hgb
      have hns := hsm.2 _ (List.getElem_mem hlt)
      have ht : ∀ L, run (C u0r [.agg (cs_SG l[i].types.l[n]), .fn u2v [] []]) (hadd K L) = some (.ok (.agg (cs_SG (gS id l[i].types.l[n]))) (hadd K L)) := fun L => uia (hq1 L) (by omega)
      have hq2 : ∀ x L, hget (hadd (hset K H.length x) L) H.length = some x := fun x L => q1 hid
      have hq3 : ∀ x L, hset (hadd K L) H.length x = hadd (hset K H.length x) L := fun x L => u6q hid
      have hk2 : ∀ x L, hcut (hadd (hset K H.length x) L) H.length = H := fun x L => by rw [cut_le (by rw [u12]; omega), u2y (Nat.le_refl _)]; exact hcw
      rw [u2k]
      unfold cs_RG at hia
      unfold cs_SG at hib ht
      unfold gS at ht
      simp only at ht
      unfold zS at hq1
      simp +contextual -dsimp (disch := omega) only [↓goDown, goUp, cr, simprocAttr, hia, hib, ht, hq1, hq2, hq3, hk2, u19, u0m, low_Z, strip_Z, u08, u0t, ln_Z, List.length_map, c1, c2, pOut, cs_SG, gS]
      all_goals rfl
    · rw [dif_neg hlt]
      have c2 : ((n : Int) < l[i].types.l.length) = False := eq_false (by omega)
      have ih := ufp (H := H) (z := z) (v5 := v5) (v6 := v6) (v7 := v7) hl m (i + 1) (n - l[i].types.l.length) (hadd K [.cells (cs_RG l[i])]) (by omega) (by omega) (hq1 _) (hk _)
      have e1 : ((n - l[i].types.l.length : Nat) : Int) = (n : Int) - l[i].types.l.length := by omega
      rw [e1] at ih
      rw [← ih, u2k]
      unfold cs_RG at hia ⊢
      simp +contextual -dsimp (disch := omega) only [↓goDown, goUp, cr, simprocAttr, hia, u19, u0m, low_Z, strip_Z, u08, u0t, ln_Z, List.length_map, c1, c2, ns]
      all_goals rfl
def atI (l : List RG) (n : Int) : Option (SG × Nat × Nat) := if n < 0 then none else atL l n.toNat 0
theorem pAt {H : Heap} {z : Bool} {l : List RG} {n : Int} (hl : smallR l) (hn : n ≤ 9223372036854775807) : run (C u3r [LZ z 2 (l.map encRG), .int .i64 n]) H = some (.ok (pOut (atI l n)) H) := by
  rw [uf3]
  unfold atI
  by_cases h0 : n < 0
  · have c1 : (0 ≤ n) = False := eq_false (by omega)
    have h11 : ∀ v5 v6 v7, truncR H (run (u37 (.ptr H.length 0) v5 v6 v7) (hadd H [.cells zS])) = _ := fun v5 v6 v7 => at11 (v5 := v5) (v6 := v6) (v7 := v7) u3p rfl cutA0
    unfold zS at h11
    rw [if_pos h0]
    simp +contextual -dsimp (disch := omega) only [↓goDown, goUp, cr, simprocAttr, strip_Z, ln_Z, List.length_map, c1, h11]
  · have c1 : (0 ≤ n) = True := eq_true (by omega)
    have hlp := fun v5 v6 v7 => ufp (H := H) (z := z) (v5 := v5) (v6 := v6) (v7 := v7) hl l.length 0 n.toNat (hadd H [.cells zS]) (Nat.zero_add _) (by omega) u3p cutA0
    have e1 : ((n.toNat : Nat) : Int) = n := by omega
    simp only [List.drop_zero, e1, show ((0 : Nat) : Int) = 0 from rfl] at hlp
    unfold zS at hlp
    rw [if_neg h0]
    simp +contextual -dsimp (disch := omega) only [↓goDown, goUp, cr, simprocAttr, strip_Z, ln_Z, List.length_map, c1, hlp]
theorem ug9 {H : Heap} {z : Bool} {l : List RG} {v5 v6 v7 : PV} (hl : smallR l) : ∀ (m i n : Nat), i + m = l.length → n ≤ 9223372036854775807 →
    truncR H (run (u1k (LZ z 2 (l.map encRG)) (.int .i64 n) (.ptr H.length 0) v5 v6 v7 (.int .i64 i)) (hadd H [.cells zS])) = some (.ok (rOut (atL (l.drop i) n i)) H)
  | 0, i, n, h, hn => by
    have c1 : ((i : Int) < l.length) = False := eq_false (by omega)
    rw [List.drop_eq_nil_of_le (by omega), atL, u1r]
    unfold zS
    simp +contextual -dsimp (disch := omega) only [↓goDown, goUp, cr, simprocAttr, strip_Z, ln_Z, List.length_map, c1, rOut, zS]
    all_goals rfl
  | m + 1, i, n, h, hn => by
    have hi : i < l.length := by omega
    have hd : l.drop i = l[i] :: l.drop (i + 1) := List.drop_eq_getElem_cons hi
    have hsm := hl.2 _ (List.getElem_mem hi)
    have hl1 := hsm.1
    have hll := hl.1
    have c1 : ((i : Int) < l.length) = True := eq_true (by omega)
    have hga : (l.map encRG)[i]? = some (encRG l[i]) := by simp [hi]
    have hia : ∀ K, run (iaS 2 (LZ z 2 (l.map encRG)) (.int .i64 i)) K = some (.ok (.elem (cs_RG l[i])) K) := fun K => ia_Z hga
    unfold cs_RG at hia
    rw [hd, atL]
    by_cases hlt : n < l[i].types.l.length
    · rw [dif_pos hlt]
      have c2 : ((n : Int) < l[i].types.l.length) = True := eq_true (by omega)
      have hgb : (l[i].types.l.map encSG)[n]? = some (encSG l[i].types.l[n]) := by simp [hlt]
      have hib : ∀ K, run (iaS 6 (LZ l[i].types.z 6 (l[i].types.l.map encSG)) (.int .i64 n)) K = some (.ok (.elem (cs_SG l[i].types.l[n])) K) := fun K => ia_Z hgb
      rw [u1r]
      unfold cs_SG at hib
      unfold zS
      simp +contextual -dsimp (disch := omega) only [↓goDown, goUp, cr, simprocAttr, hia, hib, u19, u0m, low_Z, strip_Z, u08, u0t, ln_Z, List.length_map, c1, c2, rOut, cs_SG]
      all_goals rfl
    · rw [dif_neg hlt]
      have c2 : ((n : Int) < l[i].types.l.length) = False := eq_false (by omega)
      have ih := ug9 (H := H) (z := z) (v5 := v5) (v6 := v6) (v7 := v7) hl m (i + 1) (n - l[i].types.l.length) (by omega) (by omega)
      have e1 : ((n - l[i].types.l.length : Nat) : Int) = (n : Int) - l[i].types.l.length := by omega
      rw [e1] at ih
      rw [← ih, u1r]
      simp +contextual -dsimp (disch := omega) only [↓goDown, goUp, cr, simprocAttr, hia, strip_Z, u08, u0t, ln_Z, List.length_map, c1, c2, ns]
      all_goals rfl
theorem refAt {H : Heap} {z : Bool} {l : List RG} {n : Int} (hl : smallR l) (hn : n ≤ 9223372036854775807) : run (C u20 [LZ z 2 (l.map encRG), .int .i64 n]) H = some (.ok (rOut (atI l n)) H) := by
  rw [u69]
  unfold atI
  by_cases h0 : n < 0
  · rw [if_pos h0]
    simp +contextual -dsimp (disch := omega) only [↓goDown, goUp, cr, simprocAttr, eq_true h0, rOut, zS]
  · have hlp := fun v5 v6 v7 => ug9 (H := H) (z := z) (v5 := v5) (v6 := v6) (v7 := v7) hl l.length 0 n.toNat (Nat.zero_add _) (by omega)
    have e1 : ((n.toNat : Nat) : Int) = n := by omega
    simp only [List.drop_zero, e1, show ((0 : Nat) : Int) = 0 from rfl] at hlp
    unfold zS at hlp
    rw [if_neg h0]
    simp +contextual -dsimp (disch := omega) only [↓goDown, goUp, cr, simprocAttr, eq_false h0, hlp]
end Go.Proofs.YtiiepllnnjjmaaaDoor.Pi.Q
namespace Go.Proofs.YtiiepllnnjjmaaaDoor.Pi.Q
open Go Go.Proofs.YtiiepllnnjjmaaaDoor.Pi
attribute [local congr] ite_congr
theorem ukr {u v x y : PV} {r : List PV} : ex 3 (.tup (u :: v :: x :: y :: r)) = M.pure y := nrfl rfl
theorem wfI {n : Int} (h : (Lit.int .i64 n).wf = true) : -9223372036854775808 ≤ n ∧ n ≤ 9223372036854775807 := by
  simp [Lit.wf, IntKind.min, IntKind.max, IntKind.bits, IntKind.signed] at h
  omega
theorem uk1 {H : Heap} {v0 v4 : PV} {u : List Int} (hl : u.length < 2000000) : ∀ (m j : Nat), j + m = u.length →
    run (u07 v0 v4 (accP 1 (u.map encI)) (accP 1 (u.map encI)) (.int .i64 j)) H = run (u07 v0 v4 (accP 1 (u.map encI)) (accP 1 (u.map encI)) (.int .i64 u.length)) H
  | 0, j, h => by rw [show j = u.length by omega]
  | m + 1, j, h => by
    have hi : j < u.length := by omega
    have ih := uk1 (H := H) (v0 := v0) (v4 := v4) hl m (j + 1) (by omega)
    rw [← ih, u1a]
    have c1 : ((j : Int) < u.length) = True := eq_true (by omega)
    have hga : (u.map encI)[j]? = some (encI u[j]) := by simp [hi]
    have hia : ∀ K, run (iaS 1 (LZ true 1 (u.map encI)) (.int .i64 j)) K = some (.ok (.elem [.int .i64 u[j]]) K) := fun K => ia_Z hga
    have e1 : (u[j] != u[j]) = false := by simp
    simp +contextual -dsimp (disch := omega) only [↓goDown, goUp, cr, simprocAttr, u0x, u35, strip_Z, ln_Z, List.length_map, c1, hia, neqI, e1, ns]
    all_goals rfl
theorem tc_end {H : Heap} {z : Bool} {l : List RG} {v4 : PV} {u : List Int} (hl : smallR l) (hn : nT l ≤ 100000000000) (hu : u.length < 2000000) :
    run (u07 (LZ z 2 (l.map encRG)) v4 (accP 1 (u.map encI)) (accP 1 (u.map encI)) (.int .i64 u.length)) H = some (.ok (.bool true) H) := by
  have h1 := fun K => umk (H := K) (z := z) hl hn
  have h2 := fun K => uii (H := K) (z := z) hl hn
  have c1 : ((u.length : Int) < u.length) = False := eq_false (by omega)
  rw [u1a]
  cases hc : cL l 0 with
  | none =>
    rw [hc] at h1 h2
    unfold cOut at h1 h2
    simp +contextual -dsimp (disch := omega) only [↓goDown, goUp, cr, simprocAttr, u0x, u35, strip_Z, ln_Z, List.length_map, c1, h1, h2, eqlI, beq_self_eq_true, udt]
  | some k =>
    rw [hc] at h1 h2
    unfold cOut at h1 h2
    simp +contextual -dsimp (disch := omega) only [↓goDown, goUp, cr, simprocAttr, u0x, u35, strip_Z, ln_Z, List.length_map, c1, h1, h2, eqlI, beq_self_eq_true, udt]
theorem uja {H : Heap} {z : Bool} {l : List RG} {n : Int} {a b : SG} {g m e : Int} {k : Bool} (hl : smallR l) (hn : nT l ≤ 100000000000) (hb : nS b ≤ 1048576) (hp : a.plain = b.plain) (hf : a.plain.fit) (hek : (e = 0 ∧ k = true) ∨ (e = 50 ∧ k = false))
    (hA : ∀ K, run (C u3r [LZ z 2 (l.map encRG), .int .i64 n]) K = some (.ok (.tup [.agg (cs_SG a), .int .i64 g, .int .i64 m, .int .i64 e]) K))
    (hB : ∀ K, run (C u20 [LZ z 2 (l.map encRG), .int .i64 n]) K = some (.ok (.tup [.agg (cs_SG b), .int .i64 g, .int .i64 m, .bool k]) K)) :
    run (C u17 [LZ z 2 (l.map encRG), .int .i64 n]) H = some (.ok (.bool true) H) := by
  have hc1 := fun K => pCount (H := K) (z := z) hl hn
  have hc2 := fun K => ul6 (H := K) (z := z) hl hn
  have hs := fun K => refSub (H := K) (b := b) hf
  rw [hp, uhw] at hs
  have hu1 := fun K => pUses (H := K) (v := b) (by omega)
  have hu2 := fun K => um7 (H := K) (v := b) (by omega)
  have hal := ubb (v := b)
  have hpl : (pos (allS b)).length ≤ (allS b).length := List.length_filter_le _ _
  have hlp := fun v4 K => (uk1 (H := K) (v0 := LZ z 2 (l.map encRG)) (v4 := v4) (u := pos (allS b)) (by omega) _ 0 (Nat.zero_add _)).trans (tc_end (H := K) (v4 := v4) hl hn (by omega))
  rw [show ((0 : Nat) : Int) = 0 from rfl] at hlp
  have e1 : ((nT l : Int) != (nT l : Int)) = false := by simp
  have e2 : (((pos (allS b)).length : Int) != ((pos (allS b)).length : Int)) = false := by simp
  have e3 : (g != g) = false := by simp
  have e4 : (m != m) = false := by simp
  rw [u3u]
  unfold cs_SG at hA hB hs hu1 hu2
  rcases hek with ⟨rfl, rfl⟩ | ⟨rfl, rfl⟩
  · simp +contextual -dsimp (disch := omega) only [↓goDown, goUp, cr, simprocAttr, ukr, hA, hB, hc1, hc2, hs, hu1, hu2, hlp, e1, e2, e3, e4, neqI, neqB, eqlI, beq_self_eq_true, un_not, Bool.not_true, u19, u0m, low_Z, u08, strip_Z, u0t, u0x, u35, ln_Z, List.length_map]
  · simp +contextual -dsimp (disch := omega) only [↓goDown, goUp, cr, simprocAttr, ukr, hA, hB, hc1, hc2, hs, hu1, hu2, hlp, e1, e2, e3, e4, neqI, neqB, eqlI, beq_self_eq_true, un_not, Bool.not_true, u19, u0m, low_Z, u08, strip_Z, u0t, u0x, u35, ln_Z, List.length_map]
def zG : SG := ⟨false, ⟨true, []⟩, ⟨0, ⟨true, []⟩, ⟨true, []⟩, ⟨true, []⟩⟩⟩
theorem ula {l : List RG} (hm : sumL (fun a : RG => ms_RG a) l ≤ 1048576) : smallR l ∧ nT l ≤ 1048576 ∧ ∀ r ∈ l, ∀ s ∈ r.types.l, ms_SG s ≤ 1048576 := by
  have h0 := sumLen (m := fun a => ms_RG a) l (fun a _ => by unfold ms_RG; omega)
  have hr : ∀ r ∈ l, ms_RG r ≤ 1048576 := fun r h => by have := sumMem (m := fun a : RG => ms_RG a) l r h; omega
  have hls : ∀ r : RG, r.types.l.length ≤ ms_RG r := fun r => by
    have := sumLen (m := fun a => ms_SG a) r.types.l (fun a _ => by unfold ms_SG; omega)
    unfold ms_RG
    omega
  have hss : ∀ r ∈ l, ∀ s ∈ r.types.l, ms_SG s ≤ 1048576 := fun r h s h2 => by
    have h3 := sumMem (m := fun a : SG => ms_SG a) r.types.l s h2
    have h4 := hr r h
    unfold ms_RG at h4
    omega
  refine ⟨⟨by omega, fun r h => ⟨Nat.le_trans (hls r) (hr r h), fun s h2 => Nat.le_trans nS_le (hss r h s h2)⟩⟩, ?_, hss⟩
  refine Nat.le_trans ?_ hm
  unfold nT
  clear hm h0 hr hss
  induction l with
  | nil => exact Nat.le_refl _
  | cons r l ih =>
    have := hls r
    simp only [sumL]
    omega
theorem counts_of {l : GL RG} {n : Int} {H : Heap} (hn : (Lit.int .i64 n).wf = true) (hm : sumL (fun a : RG => ms_RG a) l.l ≤ 1048576) :
    run (C u17 [LZ l.z 2 (l.l.map encRG), .int .i64 n]) H = some (.ok (.bool true) H) := by
  obtain ⟨hR, hT, hS⟩ := ula hm
  have hn2 := (wfI hn).2
  have hA := fun K => pAt (H := K) (z := l.z) (l := l.l) (n := n) hR hn2
  have hB := fun K => refAt (H := K) (z := l.z) (l := l.l) (n := n) hR hn2
  cases ho : atI l.l n with
  | none =>
    rw [ho] at hA hB
    exact uja (a := zG) (b := zG) (e := 50) (k := false) hR (by omega) (by show 0 ≤ _; omega) rfl (by refine ⟨?_, ?_, ?_, ?_⟩ <;> decide) (.inr ⟨rfl, rfl⟩) hA hB
  | some x =>
    obtain ⟨s, k, m⟩ := x
    rw [ho] at hA hB
    have hin : ∃ r ∈ l.l, s ∈ r.types.l := by
      unfold atI at ho
      split at ho
      · cases ho
      · exact atL_in _ _ _ _ _ _ ho
    obtain ⟨r, h1, h2⟩ := hin
    have h3 := hS r h1 s h2
    exact uja (a := gS id s) (b := s) (e := 0) (k := true) hR (by omega) (Nat.le_trans nS_le h3) gS_id (by rw [gS_id]; exact sgFit h3) (.inl ⟨rfl, rfl⟩) hA hB
end Go.Proofs.YtiiepllnnjjmaaaDoor.Pi.Q
