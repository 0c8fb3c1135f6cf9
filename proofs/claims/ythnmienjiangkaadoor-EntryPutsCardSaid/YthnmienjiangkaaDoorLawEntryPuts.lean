/- The law EntryPuts: the Go function answers true for every input, and its arguments read afterwards as they read before (the statement Rows.EntryPutsCardSaid). Conditions: the two tables of Go's package unicode/utf8 hold what the program's text lays in them (the card ties that to the text); none beyond the statement's own. -/
import Derived.Test.YthnmienjiangkaaDoorTie
import Derived.Test.YthnmienjiangkaaDoorCards
import Derived.Test.YthnmienjiangkaaDoorPiP3
import Derived.WalkKit
import Derived.ProofKit
import Derived.OpenShut
import Derived.ShutString
import Derived.ChangeOld
import Derived.Below
import Derived.SizedLaws
import Derived.Lay
import Derived.Lib.LaidU8
import Derived.Deep.DeepHandedRow
import Derived.SevenTiedAt
import Derived.Stop.Joined
import Derived.LaidMore
namespace Go.Proofs.YthnmienjiangkaaDoor.entryPuts
open Go.ChangeShapes Go.WideShapes Go.ChangeAt Go.RowKit
open Go.ChangeMaps (open_string shut_string)
open Go.Proofs.YthnmienjiangkaaDoor.Pi
set_option linter.unusedVariables false
theorem own : ownKnob Tryd.prog.godebug = none := by kernel_rfl
theorem laidOut : laidOutB Tryd.prog = true := by kernel_rfl
theorem first_eq : Pinned.utf8First = Lib.firstData := by kernel_rfl
theorem accept_eq : Rows.laid_unicode_utf8_acceptRanges = Lib.acceptData := by kernel_rfl
theorem num0 : Tryd.prog.globalNamed "unicode/utf8.first" = some 0 := by kernel_rfl
theorem num1 : Tryd.prog.globalNamed "unicode/utf8.acceptRanges" = some 1 := by kernel_rfl
theorem ty0 : (Tryd.prog.globals[0]?).map (·.type) = some 87 := by kernel_rfl
theorem ty1 : (Tryd.prog.globals[1]?).map (·.type) = some 90 := by kernel_rfl
theorem cellsB : Tryd.prog.cellsOf 5 = 1 := by kernel_rfl
theorem cellsP : Tryd.prog.cellsOf 89 = 2 := by kernel_rfl
theorem pairs : ∀ (i : Nat) (f : Field), (#[⟨"lo", 5, 0, false, "", "unicode/utf8", 0⟩, ⟨"hi", 5, 1, false, "", "unicode/utf8", 1⟩] : Array Field)[i]? = some f → Tryd.prog.underlying f.type = some (.int .u8) ∧ f.offset = i ∧ Tryd.prog.cellsOf f.type = 1 := fun i f hi => by
  rcases i with _ | _ | i
  · simp at hi; subst hi; exact ⟨Tryd.underlying5, rfl, cellsB⟩
  · simp at hi; subst hi; exact ⟨Tryd.underlying5, rfl, cellsB⟩
  · simp at hi
theorem first_cells {W : World} (h : Lib.VarReads Tryd.prog W "unicode/utf8.first" Lib.firstData) (c : Nat) (hc : c < 256) : W.cell? ⟨0, c, none⟩ = some (.int .u8 (Lib.firstT c)) := by
  obtain ⟨g, t, cs, fuel, p, hg, ht, hv, hd⟩ := h
  cases num0.symm.trans hg
  cases ty0.symm.trans ht
  have e := Lib.cells_of_tab Tryd.underlying87 Tryd.underlying5 cellsB (by kernel_rfl) hd
  rw [World.var?_cell hg hv c, ← Array.getElem?_toList, e]
  unfold Lib.firstTab
  rw [List.getElem?_map, List.getElem?_map, List.getElem?_range hc]
  rfl
theorem accept_cells {W : World} (h : Lib.VarReads Tryd.prog W "unicode/utf8.acceptRanges" Lib.acceptData) (i : Nat) (hi : i < 16) : W.cell? ⟨1, 2 * i, none⟩ = some (.int .u8 (Lib.accLo i)) ∧ W.cell? ⟨1, 2 * i + 1, none⟩ = some (.int .u8 (Lib.accHi i)) := by
  obtain ⟨g, t, cs, fuel, p, hg, ht, hv, hd⟩ := h
  cases num1.symm.trans hg
  cases ty1.symm.trans ht
  obtain ⟨fuel2, d, q, hd1, hd2⟩ := Lib.array_elem Tryd.underlying90 hd i hi
  rw [List.getElem?_map, List.getElem?_range hi] at hd1
  cases hd1
  rw [cellsP] at hd2
  have e := Lib.ints_of_struct Tryd.underlying89 pairs (by rw [cellsP]; rfl) hd2
  have e0 := congrArg (fun l => l[0]?) e
  have e1 := congrArg (fun l => l[1]?) e
  simp only [List.getElem?_take, List.getElem?_drop, Nat.add_zero] at e0 e1
  rw [World.var?_cell hg hv (2 * i), World.var?_cell hg hv (2 * i + 1), ← Array.getElem?_toList, ← Array.getElem?_toList, Nat.mul_comm 2 i]
  exact ⟨by simpa using e0, by simpa using e1⟩
/-- What the condition gives: the tables' cells. -/
theorem tabs {W : World} (h : laidMetH Tryd.prog Rows.entryPutsRow.laid W) : Lib.Utf8Tabs 0 1 W := by
  rw [MakeChecks.laidMetH_plain _ _ _ (by kernel_rfl)] at h
  exact ⟨first_cells (first_eq ▸ Lib.laidMet.reads h (.tail _ (.head _))), accept_cells (accept_eq ▸ Lib.laidMet.reads h (.head _))⟩
theorem acc_at : accC = (List.range 32).map fun j => PV.int .u8 (if j % 2 = 0 then Lib.accLo (j / 2) else Lib.accHi (j / 2)) := by kernel_rfl
theorem globs {W : World} (h : Lib.Utf8Tabs 0 1 W) : GlobOk (imOf W) := fun b => by
  by_cases h0 : b = 0
  · subst h0
    refine .inr ?_
    rw [GT_0]
    have e : ∀ (j : Nat) (c : PV), firstC[j]? = some c → j < 256 ∧ c = .int .u8 (Lib.firstT j) := fun j c hj => by
      unfold firstC at hj
      rw [List.getElem?_map] at hj
      by_cases hl : j < 256
      · rw [List.getElem?_range hl] at hj; exact ⟨hl, (Option.some.inj hj).symm⟩
      · rw [List.getElem?_eq_none (by simp; omega)] at hj; cases hj
    refine .elem (fun j => .int .u8 (Lib.firstT j)) (fun j c hj => ?_) (fun j c hj => ?_)
    · rw [Nat.zero_add]; exact h.1 j (e j c hj).1
    · rw [(e j c hj).2]; exact .int _ _
  · by_cases h1 : b = 1
    · subst h1
      refine .inr ?_
      rw [GT_1]
      have e : ∀ (j : Nat) (c : PV), accC[j]? = some c → j / 2 < 16 ∧ c = .int .u8 (if j % 2 = 0 then Lib.accLo (j / 2) else Lib.accHi (j / 2)) := fun j c hj => by
        rw [acc_at, List.getElem?_map] at hj
        by_cases hl : j < 32
        · rw [List.getElem?_range hl] at hj; exact ⟨by omega, (Option.some.inj hj).symm⟩
        · rw [List.getElem?_eq_none (by simp; omega)] at hj; cases hj
      refine .elem (fun j => .int .u8 (if j % 2 = 0 then Lib.accLo (j / 2) else Lib.accHi (j / 2))) (fun j c hj => ?_) (fun j c hj => ?_)
      · rw [Nat.zero_add]
        have h2 := h.2 (j / 2) (e j c hj).1
        by_cases hm : j % 2 = 0
        · rw [if_pos hm]
          have e2 : 2 * (j / 2) = j := by omega
          have := h2.1
          rw [e2] at this
          exact this
        · rw [if_neg hm]
          have e2 : 2 * (j / 2) + 1 = j := by omega
          have := h2.2
          rw [e2] at this
          exact this
      · rw [(e j c hj).2]; exact .int _ _
    · exact .inl (GT_more h0 h1)
set_option maxRecDepth 100000
theorem dec_V {H : Type} (enc : TypeId × Value → H) (W : World) (n : Nat) : Dec (DecArgs.mk enc Tryd.prog W 0 (fun _ => true) true) n 23 Q.cs_V Q.ok_V Q.ms_V :=
  Dec.map (dec_struct Tryd.underlying23 rfl (fun _ _ => (decF_cons (dec_int Tryd.underlying3) (decF_cons (dec_bool Tryd.underlying4) (decF_cons (dec_int Tryd.underlying3) decF_nil))))) (fun p => (⟨p.1, p.2.1, p.2.2.1⟩ : Q.VT)) (fun _ => rfl) (fun _ h => h) (fun _ => Nat.le_refl _)
theorem dec_LT {H : Type} (enc : TypeId × Value → H) (W : World) (n : Nat) : Dec (DecArgs.mk enc Tryd.prog W 0 (fun _ => true) true) n 26 Q.cs_LT Q.ok_LT Q.ms_LT :=
  Dec.map (dec_struct Tryd.underlying26 rfl (fun _ _ => (decF_cons (dec_bool Tryd.underlying4) (decF_cons (dec_int Tryd.underlying24) (decF_cons (dec_int Tryd.underlying24) (decF_cons (dec_bool Tryd.underlying4) decF_nil)))))) (fun p => (⟨p.1, p.2.1, p.2.2.1, p.2.2.2.1⟩ : Q.LT)) (fun _ => rfl) (fun _ h => h) (fun _ => Nat.le_refl _)
theorem dec_TB {H : Type} (enc : TypeId × Value → H) (W : World) (n : Nat) : Dec (DecArgs.mk enc Tryd.prog W 0 (fun _ => true) true) n 28 Q.cs_TB Q.ok_TB Q.ms_TB :=
  Dec.map (dec_struct Tryd.underlying28 rfl (fun _ _ => (decF_cons (dec_V enc W _) (decF_cons (dec_LT enc W _) decF_nil)))) (fun p => (⟨p.1, p.2.1⟩ : Q.TB)) (fun _ => rfl) (fun _ h => h) (fun _ => Nat.le_refl _)
theorem dec_GO {H : Type} (enc : TypeId × Value → H) (W : World) (n : Nat) : Dec (DecArgs.mk enc Tryd.prog W 0 (fun _ => true) true) n 30 Q.cs_GO Q.ok_GO Q.ms_GO :=
  Dec.map (dec_struct Tryd.underlying30 rfl (fun _ _ => (decF_cons (dec_V enc W _) (decF_cons (dec_bool Tryd.underlying4) decF_nil)))) (fun p => (⟨p.1, p.2.1⟩ : Q.GO)) (fun _ => rfl) (fun _ h => h) (fun _ => Nat.le_refl _)
theorem dec_XT {H : Type} (enc : TypeId × Value → H) (W : World) (n : Nat) : Dec (DecArgs.mk enc Tryd.prog W 0 (fun _ => true) true) n 32 Q.cs_XT Q.ok_XT Q.ms_XT :=
  Dec.map (dec_struct Tryd.underlying32 rfl (fun _ _ => (decF_cons (dec_int Tryd.underlying3) (decF_cons (dec_int Tryd.underlying3) (decF_cons (dec_TB enc W _) (decF_cons (dec_LT enc W _) (decF_cons (dec_GO enc W _) decF_nil))))))) (fun p => (⟨p.1, p.2.1, p.2.2.1, p.2.2.2.1, p.2.2.2.2.1⟩ : Q.XT)) (fun _ => rfl) (fun _ h => h) (fun _ => Nat.le_refl _)
theorem dec_IM {H : Type} (enc : TypeId × Value → H) (W : World) (n : Nat) : Dec (DecArgs.mk enc Tryd.prog W 0 (fun _ => true) true) n 34 Q.cs_IM Q.ok_IM Q.ms_IM :=
  Dec.map (dec_struct Tryd.underlying34 rfl (fun _ _ => (decF_cons (dec_str Tryd.underlying9) (decF_cons (dec_str Tryd.underlying9) (decF_cons (dec_XT enc W _) decF_nil))))) (fun p => (⟨p.1, p.2.1, p.2.2.1⟩ : Q.IM)) (fun _ => rfl) (fun _ h => h) (fun _ => Nat.le_refl _)
theorem dec_EX {H : Type} (enc : TypeId × Value → H) (W : World) (n : Nat) : Dec (DecArgs.mk enc Tryd.prog W 0 (fun _ => true) true) n 37 Q.cs_EX Q.ok_EX Q.ms_EX :=
  Dec.map (dec_struct Tryd.underlying37 rfl (fun _ _ => (decF_cons (dec_str Tryd.underlying9) (decF_cons (dec_int Tryd.underlying3) (decF_cons (dec_int Tryd.underlying35) decF_nil))))) (fun p => (⟨p.1, p.2.1, p.2.2.1⟩ : Q.EX)) (fun _ => rfl) (fun _ h => h) (fun _ => Nat.le_refl _)
theorem plain_all : ([9, 3, 4, 23, 24, 26, 28, 30, 32, 34, 35, 37] : List TypeId).all (plainT Tryd.prog [9, 3, 4, 23, 24, 26, 28, 30, 32, 34, 35, 37]) = true := by kernel_rfl
theorem met (os : Os) : laidMetH Tryd.prog Rows.entryPutsRow.laid ((World.laidAll Tryd.prog os Rows.entryPutsRow.laid).forCall (fun _ _ => 0) ⟨#[], #[.agg #[.string .empty, .string .empty, .int .i64 0, .int .i64 0, .int .i64 0, .bool false, .int .i64 0, .bool false, .int .u64 0, .int .u64 0, .bool false, .bool false, .int .u64 0, .int .u64 0, .bool false, .int .i64 0, .bool false, .int .i64 0, .bool false], .agg #[.string .empty, .int .i64 0, .int .u32 0]], []⟩).memory := by
  rw [MakeChecks.laidMetH_plain _ _ _ (by kernel_rfl)]
  exact laidMet_laidAll _ (by kernel_rfl) (by kernel_rfl)
set_option maxRecDepth 100000 in
theorem reads (os : Os) {H : Type} (enc : TypeId × Value → H) : ∃ places, DataW.whole enc Tryd.prog ((World.laidAll Tryd.prog os Rows.entryPutsRow.laid).forCall (fun _ _ => 0) ⟨#[], #[.agg #[.string .empty, .string .empty, .int .i64 0, .int .i64 0, .int .i64 0, .bool false, .int .i64 0, .bool false, .int .u64 0, .int .u64 0, .bool false, .bool false, .int .u64 0, .int .u64 0, .bool false, .int .i64 0, .bool false, .int .i64 0, .bool false], .agg #[.string .empty, .int .i64 0, .int .u32 0]], []⟩).memory Tryd.f3.params.toList Rows.entryPutsSpec.vars false (#[.agg #[.string .empty, .string .empty, .int .i64 0, .int .i64 0, .int .i64 0, .bool false, .int .i64 0, .bool false, .int .u64 0, .int .u64 0, .bool false, .bool false, .int .u64 0, .int .u64 0, .bool false, .int .i64 0, .bool false, .int .i64 0, .bool false], .agg #[.string .empty, .int .i64 0, .int .u32 0]] : Array Value).toList 8 = some ([.agg [.lit (.string []), .lit (.string []), .agg [.lit (.int .i64 0), .lit (.int .i64 0), .agg [.agg [.lit (.int .i64 0), .lit (.bool false), .lit (.int .i64 0)], .agg [.lit (.bool false), .lit (.int .u64 0), .lit (.int .u64 0), .lit (.bool false)]], .agg [.lit (.bool false), .lit (.int .u64 0), .lit (.int .u64 0), .lit (.bool false)], .agg [.agg [.lit (.int .i64 0), .lit (.bool false), .lit (.int .i64 0)], .lit (.bool false)]]], .agg [.lit (.string []), .lit (.int .i64 0), .lit (.int .u32 0)]], [], places) :=
  ⟨[], by kernel_rfl⟩
set_option maxRecDepth 100000 in
theorem lifted (os : Os) (started : os.Started) (H : Type) (enc : TypeId × Value → H) (F : Stop.Interp) :
    ReturnsInHanded {} Tryd.checked os 3 .any ((OpenSpec.ofChange Rows.entryPutsSpec).preRow enc Tryd.prog Tryd.f3 Rows.entryPutsRow.domain false Rows.entryPutsRow.laid) (((OpenSpec.ofChange Rows.entryPutsSpec).at F).post enc Tryd.prog Tryd.f3 false true false false) := by
  obtain ⟨places, hx⟩ := reads os enc
  refine returnsInHanded_of_row (C := Tryd.checked) (s := (OpenSpec.ofChange Rows.entryPutsSpec)) own started (by kernel_rfl) Tryd.func3
    (witness_row_at (enc := enc) (C := Tryd.checked) false (World.laidAll Tryd.prog os Rows.entryPutsRow.laid) #[.agg #[.string .empty, .string .empty, .int .i64 0, .int .i64 0, .int .i64 0, .bool false, .int .i64 0, .bool false, .int .u64 0, .int .u64 0, .bool false, .bool false, .int .u64 0, .int .u64 0, .bool false, .int .i64 0, .bool false, .int .i64 0, .bool false], .agg #[.string .empty, .int .i64 0, .int .u32 0]] (World.laidAll_os _ _ _) (by kernel_rfl) (by kernel_rfl) (by kernel_rfl)
      (OpenSpec.preRow_of_cond 8 hx (by kernel_rfl) (fun k hk => by cases hk) (by kernel_rfl) (met os))) ?_
  intro W base args ds gs before hval0 hW _ hcond hsz0 hL _ _
  have hsz : (DataW.weightsEach Tryd.prog (Tryd.f3.params.toList ++ (OpenSpec.ofChange Rows.entryPutsSpec).bare.plain.varTypes Tryd.prog) (ds ++ gs)).all (· ≤ reachBytes) = true := hsz0
  have hval : ∀ (j : Nat) t v, Tryd.f3.params[j]? = some t → args[j]? = some v → Value.okWide Tryd.prog W .any base t v := hval0
  have hW' := hW
  obtain ⟨p, q, hA0, hV, rfl, hfz, hnd⟩ := hW
  have hA : DataW.TrodAll enc Tryd.prog W 0 (fun _ => true) true Tryd.f3.params.toList args.toList ds p := hA0
  rw [Tryd.params3] at hA hval hsz
  obtain ⟨v0, vs0, d0, ds0, p0, q0, hargs, rfl, rfl, h0, r0⟩ := trodAll_cons hA
  obtain ⟨v1, vs1, d1, ds1, p1, q1, rfl, rfl, rfl, h1, r1⟩ := trodAll_cons r0
  obtain ⟨rfl, rfl, rfl⟩ := trodAll_nil r1
  obtain rfl : args = #[v0, v1] := by cases args; simp_all
  obtain ⟨rfl, rfl⟩ := trodVars_none hV
  have k0 := h0
  obtain ⟨n0, hn0⟩ := h0
  have lt0 : ∀ x ∈ p0, x.block < W.heap.size := DataW.trod_lt n0 _ _ _ hn0
  obtain ⟨a0, b0, w0, m0⟩ := (dec_IM enc W n0) _ _ hn0
  have o0 := (told_ok plain_all (fun _ => rfl) n0 34 _ _ rfl hn0).2
  rw [b0] at o0
  have g0 := rep_agg Tryd.underlying34 (hval 0 34 v0 rfl rfl) o0
  have k1 := h1
  obtain ⟨n1, hn1⟩ := h1
  have lt1 : ∀ x ∈ p1, x.block < W.heap.size := DataW.trod_lt n1 _ _ _ hn1
  obtain ⟨a1, b1, w1, m1⟩ := (dec_EX enc W n1) _ _ hn1
  have o1 := (told_ok plain_all (fun _ => rfl) n1 37 _ _ rfl hn1).2
  rw [b1] at o1
  have g1 := rep_agg Tryd.underlying37 (hval 1 37 v1 rfl rfl) o1
  have hT := globs (tabs hL)
  clear hA0 hval0 hsz0 hsz
  refine (walk_law (P := Tryd.prog) noX (Q.puts_of (v := a0) (x := a1) (H := []) w0 w1) (imOf_ok W) (args_cons g0 rfl (args_cons g1 rfl args_nil)) hT).mono fun e W' ⟨he, bel⟩ => ?_
  subst he
  exact ⟨_, rfl, _, _, _, [], _, [], hW', trodAll_mk1 (shut_bool Tryd.underlying4 _), (trodAll_cons_mk (Below.trod laidOut (by kernel_rfl) (of_decide_eq_true (by kernel_rfl)) k0 bel lt0) (trodAll_cons_mk (Below.trod laidOut (by kernel_rfl) (of_decide_eq_true (by kernel_rfl)) k1 bel lt1) trodAll_mk0)), rfl, bel.frame _, fun h => by cases h⟩
theorem over : Rows.EntryPutsSaid :=
  OpenClaim.holds_of_cond 3 Tryd.f3 rfl rfl rfl rfl rfl rfl rfl ⟨rfl, rfl, rfl, rfl, rfl⟩ rfl rfl rfl rfl rfl (by kernel_rfl) Tryd.func3 (by kernel_rfl)
    (of_decide_eq_true (by kernel_rfl)) (by unfold Func.isWrapper; first | (rw [if_pos (by decide +kernel)]; kernel_rfl) | (rw [if_neg (by decide +kernel)]; exact ⟨rfl, rfl⟩))
    (fun os started H enc _ F => by rw [OpenClaim.pre_eq_preRow]; exact lifted os started H enc F)
theorem plain (f : FuncId) (fn : Func) (hf : Tryd.pinned.checked.prog.funcNamed "ratchet/ratchetlaw08.EntryPuts" = some f) (hfn : Tryd.pinned.checked.prog.funcs[f]? = some fn) :
    true = Tryd.pinned.checked.prog.looks [] ∧ ∀ (j : Nat) t, fn.params[j]? = some t → Tryd.pinned.checked.prog.wantsStandIn t = false := by
  obtain rfl : f = 3 := Option.some.inj ((show Tryd.prog.funcNamed "ratchet/ratchetlaw08.EntryPuts" = some 3 by kernel_rfl).symm.trans hf) |>.symm
  obtain rfl : fn = Tryd.f3 := (Option.some.inj (Tryd.func3.symm.trans hfn)).symm
  refine ⟨by kernel_rfl, fun j t ht => ?_⟩
  rw [Tryd.params3] at ht
  have hm : t ∈ [34, 37] := by simpa using Array.mem_of_getElem? ht
  have hall : ([34, 37].all fun u => !Tryd.prog.wantsStandIn u) = true := by kernel_rfl
  exact (show Tryd.prog.wantsStandIn t = false by simpa using List.all_eq_true.1 hall t hm)
theorem proved : Rows.EntryPutsCardSaid :=
  Claim7.holds_tied_plain_at .later [] _ _ _ _ over (fun _ h => by cases h) (by kernel_rfl) (fun _ h => by cases h) entryPuts_row_tie rfl ⟨rfl, rfl⟩ (by kernel_rfl) rfl plain (by kernel_rfl)
#print axioms proved
end Go.Proofs.YthnmienjiangkaaDoor.entryPuts
namespace Go.Proofs.YthnmienjiangkaaDoor
/-- The card, under a short name, for the claim. -/
theorem entryPuts_holds : Rows.EntryPutsCardSaid := entryPuts.proved
end Go.Proofs.YthnmienjiangkaaDoor
