/- The law EntryRest: the Go function answers true for every input, and its arguments read afterwards as they read before (the statement Rows.EntryRestCardSaid). Conditions: the two tables of Go's package unicode/utf8 hold what the program's text lays in them (the card ties that to the text); none beyond the statement's own. -/
import Derived.Test.YthnmienjiangkaaGreatDoorTie
import Derived.Test.YthnmienjiangkaaGreatDoorCards
import Derived.Test.YthnmienjiangkaaGreatDoorPiR4
import Derived.WalkKit
import Derived.ProofKit
import Derived.OpenShut
import Derived.ShutString
import Derived.ChangeOld
import Derived.Below
import Derived.SizedLaws
import Derived.Lay
import Derived.Lib.LaidU8
import Derived.Deep.DeepHandedRow
import Derived.SevenTiedAt
import Derived.Stop.Joined
import Derived.LaidMore
namespace Go.Proofs.YthnmienjiangkaaGreatDoor.entryRest
open Go.ChangeShapes Go.WideShapes Go.ChangeAt Go.RowKit
open Go.ChangeMaps (open_string shut_string)
open Go.Proofs.YthnmienjiangkaaGreatDoor.Pi
set_option linter.unusedVariables false
theorem own : ownKnob Tryz.prog.godebug = none := by kernel_rfl
theorem laidOut : laidOutB Tryz.prog = true := by kernel_rfl
theorem first_eq : Pinned.utf8First = Lib.firstData := by kernel_rfl
theorem accept_eq : Rows.laid_unicode_utf8_acceptRanges = Lib.acceptData := by kernel_rfl
theorem num0 : Tryz.prog.globalNamed "unicode/utf8.first" = some 0 := by kernel_rfl
theorem num1 : Tryz.prog.globalNamed "unicode/utf8.acceptRanges" = some 1 := by kernel_rfl
theorem ty0 : (Tryz.prog.globals[0]?).map (·.type) = some 203 := by kernel_rfl
theorem ty1 : (Tryz.prog.globals[1]?).map (·.type) = some 206 := by kernel_rfl
theorem cellsB : Tryz.prog.cellsOf 5 = 1 := by kernel_rfl
theorem cellsP : Tryz.prog.cellsOf 205 = 2 := by kernel_rfl
theorem pairs : ∀ (i : Nat) (f : Field), (#[⟨"lo", 5, 0, false, "", "unicode/utf8", 0⟩, ⟨"hi", 5, 1, false, "", "unicode/utf8", 1⟩] : Array Field)[i]? = some f → Tryz.prog.underlying f.type = some (.int .u8) ∧ f.offset = i ∧ Tryz.prog.cellsOf f.type = 1 := fun i f hi => by
  rcases i with _ | _ | i
  · simp at hi; subst hi; exact ⟨Tryz.underlying5, rfl, cellsB⟩
  · simp at hi; subst hi; exact ⟨Tryz.underlying5, rfl, cellsB⟩
  · simp at hi
theorem first_cells {W : World} (h : Lib.VarReads Tryz.prog W "unicode/utf8.first" Lib.firstData) (c : Nat) (hc : c < 256) : W.cell? ⟨0, c, none⟩ = some (.int .u8 (Lib.firstT c)) := by
  obtain ⟨g, t, cs, fuel, p, hg, ht, hv, hd⟩ := h
  cases num0.symm.trans hg
  cases ty0.symm.trans ht
  have e := Lib.cells_of_tab Tryz.underlying203 Tryz.underlying5 cellsB (by kernel_rfl) hd
  rw [World.var?_cell hg hv c, ← Array.getElem?_toList, e]
  unfold Lib.firstTab
  rw [List.getElem?_map, List.getElem?_map, List.getElem?_range hc]
  rfl
theorem accept_cells {W : World} (h : Lib.VarReads Tryz.prog W "unicode/utf8.acceptRanges" Lib.acceptData) (i : Nat) (hi : i < 16) : W.cell? ⟨1, 2 * i, none⟩ = some (.int .u8 (Lib.accLo i)) ∧ W.cell? ⟨1, 2 * i + 1, none⟩ = some (.int .u8 (Lib.accHi i)) := by
  obtain ⟨g, t, cs, fuel, p, hg, ht, hv, hd⟩ := h
  cases num1.symm.trans hg
  cases ty1.symm.trans ht
  obtain ⟨fuel2, d, q, hd1, hd2⟩ := Lib.array_elem Tryz.underlying206 hd i hi
  rw [List.getElem?_map, List.getElem?_range hi] at hd1
  cases hd1
  rw [cellsP] at hd2
  have e := Lib.ints_of_struct Tryz.underlying205 pairs (by rw [cellsP]; rfl) hd2
  have e0 := congrArg (fun l => l[0]?) e
  have e1 := congrArg (fun l => l[1]?) e
  simp only [List.getElem?_take, List.getElem?_drop, Nat.add_zero] at e0 e1
  rw [World.var?_cell hg hv (2 * i), World.var?_cell hg hv (2 * i + 1), ← Array.getElem?_toList, ← Array.getElem?_toList, Nat.mul_comm 2 i]
  exact ⟨by simpa using e0, by simpa using e1⟩
/-- What the condition gives: the tables' cells. -/
theorem tabs {W : World} (h : laidMetH Tryz.prog Rows.entryRestRow.laid W) : Lib.Utf8Tabs 0 1 W := by
  rw [MakeChecks.laidMetH_plain _ _ _ (by kernel_rfl)] at h
  exact ⟨first_cells (first_eq ▸ Lib.laidMet.reads h (.tail _ (.head _))), accept_cells (accept_eq ▸ Lib.laidMet.reads h (.head _))⟩
theorem acc_at : accC = (List.range 32).map fun j => PV.int .u8 (if j % 2 = 0 then Lib.accLo (j / 2) else Lib.accHi (j / 2)) := by kernel_rfl
theorem globs {W : World} (h : Lib.Utf8Tabs 0 1 W) : GlobOk (imOf W) := fun b => by
  by_cases h0 : b = 0
  · subst h0
    refine .inr ?_
    rw [GT_0]
    have e : ∀ (j : Nat) (c : PV), firstC[j]? = some c → j < 256 ∧ c = .int .u8 (Lib.firstT j) := fun j c hj => by
      unfold firstC at hj
      rw [List.getElem?_map] at hj
      by_cases hl : j < 256
      · rw [List.getElem?_range hl] at hj; exact ⟨hl, (Option.some.inj hj).symm⟩
      · rw [List.getElem?_eq_none (by simp; omega)] at hj; cases hj
    refine .elem (fun j => .int .u8 (Lib.firstT j)) (fun j c hj => ?_) (fun j c hj => ?_)
    · rw [Nat.zero_add]; exact h.1 j (e j c hj).1
    · rw [(e j c hj).2]; exact .int _ _
  · by_cases h1 : b = 1
    · subst h1
      refine .inr ?_
      rw [GT_1]
      have e : ∀ (j : Nat) (c : PV), accC[j]? = some c → j / 2 < 16 ∧ c = .int .u8 (if j % 2 = 0 then Lib.accLo (j / 2) else Lib.accHi (j / 2)) := fun j c hj => by
        rw [acc_at, List.getElem?_map] at hj
        by_cases hl : j < 32
        · rw [List.getElem?_range hl] at hj; exact ⟨by omega, (Option.some.inj hj).symm⟩
        · rw [List.getElem?_eq_none (by simp; omega)] at hj; cases hj
      refine .elem (fun j => .int .u8 (if j % 2 = 0 then Lib.accLo (j / 2) else Lib.accHi (j / 2))) (fun j c hj => ?_) (fun j c hj => ?_)
      · rw [Nat.zero_add]
        have h2 := h.2 (j / 2) (e j c hj).1
        by_cases hm : j % 2 = 0
        · rw [if_pos hm]
          have e2 : 2 * (j / 2) = j := by omega
          have := h2.1
          rw [e2] at this
          exact this
        · rw [if_neg hm]
          have e2 : 2 * (j / 2) + 1 = j := by omega
          have := h2.2
          rw [e2] at this
          exact this
      · rw [(e j c hj).2]; exact .int _ _
    · exact .inl (GT_more h0 h1)
theorem args_nil {im : Nat → Nat → Option Value} : ArgsOk (gOf im) [] #[] := ⟨rfl, fun j p v hp => by simp at hp⟩
theorem args_cons {im : Nat → Nat → Option Value} {p : PV} {v : Value} {ps : List PV} {vs : List Value} (h : Rep [] im p v) (hs : strip p = p) (hr : ArgsOk (gOf im) ps vs.toArray) : ArgsOk (gOf im) (p :: ps) (v :: vs).toArray := by
  refine ⟨by have := hr.size; simp at this ⊢; exact this, fun j q u hq hu => ?_⟩
  cases j with
  | zero =>
    simp at hq hu
    subst hq; subst hu
    exact ⟨.one (.pure h), hs⟩
  | succ j => exact hr.rep j q u (by simpa using hq) (by simpa using hu)
theorem met (os : Os) : laidMetH Tryz.prog Rows.entryRestRow.laid ((World.laidAll Tryz.prog os Rows.entryRestRow.laid).forCall (fun _ _ => 0) ⟨#[], #[.slice none 0 0, .int .i64 0], []⟩).memory := by
  rw [MakeChecks.laidMetH_plain _ _ _ (by kernel_rfl)]
  exact laidMet_laidAll _ (by kernel_rfl) (by kernel_rfl)
set_option maxRecDepth 100000 in
theorem reads (os : Os) {H : Type} (enc : TypeId × Value → H) : ∃ places, DataW.whole enc Tryz.prog ((World.laidAll Tryz.prog os Rows.entryRestRow.laid).forCall (fun _ _ => 0) ⟨#[], #[.slice none 0 0, .int .i64 0], []⟩).memory Tryz.f3.params.toList Rows.entryRestSpec.vars false (#[.slice none 0 0, .int .i64 0] : Array Value).toList 8 = some ([.nil, .lit (.int .i64 0)], [], places) :=
  ⟨[], by kernel_rfl⟩
set_option maxRecDepth 100000 in
theorem lifted (os : Os) (started : os.Started) (H : Type) (enc : TypeId × Value → H) (F : Stop.Interp) :
    ReturnsInHanded {} Tryz.checked os 3 .any ((OpenSpec.ofChange Rows.entryRestSpec).preRow enc Tryz.prog Tryz.f3 Rows.entryRestRow.domain false Rows.entryRestRow.laid) (((OpenSpec.ofChange Rows.entryRestSpec).at F).post enc Tryz.prog Tryz.f3 false true false false) := by
  obtain ⟨places, hx⟩ := reads os enc
  refine returnsInHanded_of_row (C := Tryz.checked) (s := (OpenSpec.ofChange Rows.entryRestSpec)) own started (by kernel_rfl) Tryz.func3
    (witness_row_at (enc := enc) (C := Tryz.checked) false (World.laidAll Tryz.prog os Rows.entryRestRow.laid) #[.slice none 0 0, .int .i64 0] (World.laidAll_os _ _ _) (by kernel_rfl) (by kernel_rfl) (by kernel_rfl)
      (OpenSpec.preRow_of_cond 8 hx (by kernel_rfl) (fun k hk => by cases hk) (by kernel_rfl) (met os))) ?_
  intro W base args ds gs before hval0 hW _ hcond hsz0 hL _ _
  have hsz : (DataW.weightsEach Tryz.prog (Tryz.f3.params.toList ++ (OpenSpec.ofChange Rows.entryRestSpec).bare.plain.varTypes Tryz.prog) (ds ++ gs)).all (· ≤ reachBytes) = true := hsz0
  have hval : ∀ (j : Nat) t v, Tryz.f3.params[j]? = some t → args[j]? = some v → Value.okWide Tryz.prog W .any base t v := hval0
  have hW' := hW
  obtain ⟨p, q, hA0, hV, rfl, hfz, hnd⟩ := hW
  have hA : DataW.TrodAll enc Tryz.prog W 0 (fun _ => true) true Tryz.f3.params.toList args.toList ds p := hA0
  rw [Tryz.params3] at hA hval hsz
  obtain ⟨v0, vs0, d0, ds0, p0, q0, hargs, rfl, rfl, h0, r0⟩ := trodAll_cons hA
  obtain ⟨v1, vs1, d1, ds1, p1, q1, rfl, rfl, rfl, h1, r1⟩ := trodAll_cons r0
  obtain ⟨rfl, rfl, rfl⟩ := trodAll_nil r1
  obtain rfl : args = #[v0, v1] := by cases args; simp_all
  obtain ⟨rfl, rfl⟩ := trodVars_none hV
  obtain ⟨z0, b0, hb0, g0, lt0⟩ := open_bytes (e := 5) hsz (j := 0) (t := 22) rfl rfl Tryz.underlying22 Tryz.underlying5 (by kernel_rfl) (by kernel_rfl) (hval 0 22 v0 rfl rfl) h0
  obtain ⟨a1, rfl, rfl, rfl, w1⟩ := open_int Tryz.underlying3 (hval 1 3 v1 rfl rfl) h1
  have hT := globs (tabs hL)
  clear hA0 hval0 hsz0 hsz
  refine (walk_law (P := Tryz.prog) noX (Q.rest_true (b := b0) (z := z0) (at_ := a1) (H := []) (show b0.length < 2 ^ 60 by omega)) (imOf_ok W) (args_cons g0 rfl (args_cons (.flat (.int _ _)) rfl args_nil)) hT).mono fun e W' ⟨he, bel⟩ => ?_
  subst he
  exact ⟨_, rfl, _, _, _, [], _, [], hW', trodAll_mk1 (shut_bool Tryz.underlying4 _), (trodAll_cons_mk (Below.trod laidOut (by kernel_rfl) (of_decide_eq_true (by kernel_rfl)) h0 bel lt0) (trodAll_cons_mk (shut_int Tryz.underlying3 w1) trodAll_mk0)), rfl, bel.frame _, fun h => by cases h⟩
theorem over : Rows.EntryRestSaid :=
  OpenClaim.holds_of_cond 3 Tryz.f3 rfl rfl rfl rfl rfl rfl rfl ⟨rfl, rfl, rfl, rfl, rfl⟩ rfl rfl rfl rfl rfl (by kernel_rfl) Tryz.func3 (by kernel_rfl)
    (of_decide_eq_true (by kernel_rfl)) (by unfold Func.isWrapper; first | (rw [if_pos (by decide +kernel)]; kernel_rfl) | (rw [if_neg (by decide +kernel)]; exact ⟨rfl, rfl⟩))
    (fun os started H enc _ F => by rw [OpenClaim.pre_eq_preRow]; exact lifted os started H enc F)
theorem plain (f : FuncId) (fn : Func) (hf : Tryz.pinned.checked.prog.funcNamed "ratchet/ratchetlaw08.EntryRest" = some f) (hfn : Tryz.pinned.checked.prog.funcs[f]? = some fn) :
    true = Tryz.pinned.checked.prog.looks [] ∧ ∀ (j : Nat) t, fn.params[j]? = some t → Tryz.pinned.checked.prog.wantsStandIn t = false := by
  obtain rfl : f = 3 := Option.some.inj ((show Tryz.prog.funcNamed "ratchet/ratchetlaw08.EntryRest" = some 3 by kernel_rfl).symm.trans hf) |>.symm
  obtain rfl : fn = Tryz.f3 := (Option.some.inj (Tryz.func3.symm.trans hfn)).symm
  refine ⟨by kernel_rfl, fun j t ht => ?_⟩
  rw [Tryz.params3] at ht
  have hm : t ∈ [22, 3] := by simpa using Array.mem_of_getElem? ht
  have hall : ([22, 3].all fun u => !Tryz.prog.wantsStandIn u) = true := by kernel_rfl
  exact (show Tryz.prog.wantsStandIn t = false by simpa using List.all_eq_true.1 hall t hm)
theorem proved : Rows.EntryRestCardSaid :=
  Claim7.holds_tied_plain_at .later [] _ _ _ _ over (fun _ h => by cases h) (by kernel_rfl) (fun _ h => by cases h) entryRest_row_tie rfl ⟨rfl, rfl⟩ (by kernel_rfl) rfl plain (by kernel_rfl)
#print axioms proved
end Go.Proofs.YthnmienjiangkaaGreatDoor.entryRest
namespace Go.Proofs.YthnmienjiangkaaGreatDoor
/-- The card, under a short name, for the claim. -/
theorem entryRest_holds : Rows.EntryRestCardSaid := entryRest.proved
end Go.Proofs.YthnmienjiangkaaGreatDoor
