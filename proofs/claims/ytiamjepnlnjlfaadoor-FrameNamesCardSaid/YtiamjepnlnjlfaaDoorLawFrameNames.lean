/- The law FrameNames: the Go function answers true for every input, and its arguments read afterwards as they read before (the statement Rows.FrameNamesCardSaid). Conditions: the two tables of Go's package unicode/utf8 hold what the program's text lays in them (the card ties it to the text); none beyond the statement's own. -/
import Derived.Test.YtiamjepnlnjlfaaDoorTie
import Derived.Test.YtiamjepnlnjlfaaDoorCards
import Derived.Test.YtiamjepnlnjlfaaDoorPiN3
import Derived.WalkKit
import Derived.ProofKit
import Derived.OpenShut
import Derived.ShutString
import Derived.ChangeOld
import Derived.Below
import Derived.SizedLaws
import Derived.Lay
import Derived.Lib.LaidU8
import Derived.SevenTiedAt
import Derived.Stop.Joined
import Derived.LaidMore
namespace Go.Proofs.YtiamjepnlnjlfaaDoor.frameNames
open Go.ChangeShapes Go.WideShapes Go.ChangeAt Go.RowKit
open Go.ChangeMaps (open_string shut_string)
open Go.Proofs.YtiamjepnlnjlfaaDoor.Pi
set_option linter.unusedVariables false
theorem own : ownKnob Tryd.prog.godebug = none := by kernel_rfl
theorem laidOut : laidOutB Tryd.prog = true := by kernel_rfl
theorem first_eq : Pinned.utf8First = Lib.firstData := by kernel_rfl
theorem accept_eq : Rows.laid_unicode_utf8_acceptRanges = Lib.acceptData := by kernel_rfl
theorem num0 : Tryd.prog.globalNamed "unicode/utf8.first" = some 0 := by kernel_rfl
theorem num1 : Tryd.prog.globalNamed "unicode/utf8.acceptRanges" = some 1 := by kernel_rfl
theorem ty0 : (Tryd.prog.globals[0]?).map (·.type) = some 89 := by kernel_rfl
theorem ty1 : (Tryd.prog.globals[1]?).map (·.type) = some 92 := by kernel_rfl
theorem cells5 : Tryd.prog.cellsOf 5 = 1 := by kernel_rfl
theorem cells91 : Tryd.prog.cellsOf 91 = 2 := by kernel_rfl
theorem pair91 : ∀ (i : Nat) (f : Field), (#[⟨"lo", 5, 0, false, "", "unicode/utf8", 0⟩, ⟨"hi", 5, 1, false, "", "unicode/utf8", 1⟩] : Array Field)[i]? = some f → Tryd.prog.underlying f.type = some (.int .u8) ∧ f.offset = i ∧ Tryd.prog.cellsOf f.type = 1 := fun i f hi => by
  rcases i with _ | _ | i
  · simp at hi; subst hi; exact ⟨Tryd.underlying5, rfl, cells5⟩
  · simp at hi; subst hi; exact ⟨Tryd.underlying5, rfl, cells5⟩
  · simp at hi
theorem first_cells {W : World} (h : Lib.VarReads Tryd.prog W "unicode/utf8.first" Lib.firstData) (c : Nat) (hc : c < 256) : W.cell? ⟨0, c, none⟩ = some (.int .u8 (Lib.firstT c)) := by
  obtain ⟨g, t, cs, fuel, p, hg, ht, hv, hd⟩ := h
  cases num0.symm.trans hg
  cases ty0.symm.trans ht
  have e := Lib.cells_of_tab Tryd.underlying89 Tryd.underlying5 cells5 (by kernel_rfl) hd
  rw [World.var?_cell hg hv c, ← Array.getElem?_toList, e]
  unfold Lib.firstTab
  rw [List.getElem?_map, List.getElem?_map, List.getElem?_range hc]
  rfl
theorem accept_cells {W : World} (h : Lib.VarReads Tryd.prog W "unicode/utf8.acceptRanges" Lib.acceptData) (i : Nat) (hi : i < 16) : W.cell? ⟨1, 2 * i, none⟩ = some (.int .u8 (Lib.accLo i)) ∧ W.cell? ⟨1, 2 * i + 1, none⟩ = some (.int .u8 (Lib.accHi i)) := by
  obtain ⟨g, t, cs, fuel, p, hg, ht, hv, hd⟩ := h
  cases num1.symm.trans hg
  cases ty1.symm.trans ht
  obtain ⟨fuel2, d, q, hd1, hd2⟩ := Lib.array_elem Tryd.underlying92 hd i hi
  rw [List.getElem?_map, List.getElem?_range hi] at hd1
  cases hd1
  rw [cells91] at hd2
  have e := Lib.ints_of_struct Tryd.underlying91 pair91 (by rw [cells91]; rfl) hd2
  have e0 := congrArg (fun l => l[0]?) e
  have e1 := congrArg (fun l => l[1]?) e
  simp only [List.getElem?_take, List.getElem?_drop, Nat.add_zero] at e0 e1
  rw [World.var?_cell hg hv (2 * i), World.var?_cell hg hv (2 * i + 1), ← Array.getElem?_toList, ← Array.getElem?_toList, Nat.mul_comm 2 i]
  exact ⟨by simpa using e0, by simpa using e1⟩
/-- What the condition gives: the tables' cells. -/
theorem tabs {W : World} (h : laidMetH Tryd.prog Rows.frameNamesRow.laid W) : Lib.Utf8Tabs 0 1 W := by
  rw [MakeChecks.laidMetH_plain _ _ _ (by kernel_rfl)] at h
  exact ⟨first_cells (first_eq ▸ Lib.laidMet.reads h (.tail _ (.head _))), accept_cells (accept_eq ▸ Lib.laidMet.reads h (.head _))⟩
theorem acc_at : accC = (List.range 32).map fun j => PV.int .u8 (if j % 2 = 0 then Lib.accLo (j / 2) else Lib.accHi (j / 2)) := by kernel_rfl
theorem globs {W : World} (h : Lib.Utf8Tabs 0 1 W) : GlobOk (imOf W) := fun b => by
  by_cases h0 : b = 0
  · subst h0
    refine .inr ?_
    rw [GT_0]
    have e : ∀ (j : Nat) (c : PV), firstC[j]? = some c → j < 256 ∧ c = .int .u8 (Lib.firstT j) := fun j c hj => by
      unfold firstC at hj
      rw [List.getElem?_map] at hj
      by_cases hl : j < 256
      · rw [List.getElem?_range hl] at hj; exact ⟨hl, (Option.some.inj hj).symm⟩
      · rw [List.getElem?_eq_none (by simp; omega)] at hj; cases hj
    refine .elem (fun j => .int .u8 (Lib.firstT j)) (fun j c hj => ?_) (fun j c hj => ?_)
    · rw [Nat.zero_add]; exact h.1 j (e j c hj).1
    · rw [(e j c hj).2]; exact .int _ _
  · by_cases h1 : b = 1
    · subst h1
      refine .inr ?_
      rw [GT_1]
      have e : ∀ (j : Nat) (c : PV), accC[j]? = some c → j / 2 < 16 ∧ c = .int .u8 (if j % 2 = 0 then Lib.accLo (j / 2) else Lib.accHi (j / 2)) := fun j c hj => by
        rw [acc_at, List.getElem?_map] at hj
        by_cases hl : j < 32
        · rw [List.getElem?_range hl] at hj; exact ⟨by omega, (Option.some.inj hj).symm⟩
        · rw [List.getElem?_eq_none (by simp; omega)] at hj; cases hj
      refine .elem (fun j => .int .u8 (if j % 2 = 0 then Lib.accLo (j / 2) else Lib.accHi (j / 2))) (fun j c hj => ?_) (fun j c hj => ?_)
      · rw [Nat.zero_add]
        have h2 := h.2 (j / 2) (e j c hj).1
        by_cases hm : j % 2 = 0
        · rw [if_pos hm]
          have e2 : 2 * (j / 2) = j := by omega
          have := h2.1
          rw [e2] at this
          exact this
        · rw [if_neg hm]
          have e2 : 2 * (j / 2) + 1 = j := by omega
          have := h2.2
          rw [e2] at this
          exact this
      · rw [(e j c hj).2]; exact .int _ _
    · exact .inl (GT_more h0 h1)
theorem args_three {im : Nat → Nat → Option Value} {p q r : PV} {v u t : Value} (h : Rep [] im p v) (hs : strip p = p) (k : Rep [] im q u) (ks : strip q = q) (l : Rep [] im r t) (ls : strip r = r) : ArgsOk (gOf im) [p, q, r] #[v, u, t] :=
  ⟨rfl, fun j x y hx hy => by
    match j, hx, hy with
    | 0, hx, hy => simp at hx hy; subst hx hy; exact ⟨.one (.pure h), hs⟩
    | 1, hx, hy => simp at hx hy; subst hx hy; exact ⟨.one (.pure k), ks⟩
    | 2, hx, hy => simp at hx hy; subst hx hy; exact ⟨.one (.pure l), ls⟩⟩
set_option maxRecDepth 100000 in
theorem lifted (os : Os) (started : os.Started) (H : Type) (enc : TypeId × Value → H) :
    ReturnsInHanded {} Tryd.checked os 6 .any (fun w args => (Rows.frameNamesSpec.pre enc Tryd.prog Tryd.f6 [] false w args ∧ laidMetH Tryd.prog Rows.frameNamesRow.laid w) ∧ sizedMet enc Tryd.prog Tryd.f6 (OpenSpec.ofChange Rows.frameNamesSpec) false w args)
      (Rows.frameNamesSpec.post enc Tryd.prog Tryd.f6 false true false false) := by
  refine returnsInHanded_of_change_and (C := Tryd.checked) (X := fun w _ => laidMetH Tryd.prog Rows.frameNamesRow.laid w) (fun _ _ _ hh h => h.of_heap hh) own started (by kernel_rfl) Tryd.func6
    (ChangeSpec.witness_shaped (enc := enc) (C := Tryd.checked) (os := os) (X := fun w _ => laidMetH Tryd.prog Rows.frameNamesRow.laid w) false (World.laidAll Tryd.prog os Rows.frameNamesRow.laid) #[.slice none 0 0, .int .i64 0, .string ByteArray.empty] 8 (World.laidAll_os _ _ _)
      (World.shaped_of_ZipB (by kernel_rfl) (by kernel_rfl)) (by kernel_rfl) (by kernel_rfl) (by kernel_rfl)
      (by rw [MakeChecks.laidMetH_plain _ _ _ (by kernel_rfl)]; exact laidMet_laidAll _ (by kernel_rfl) (by kernel_rfl))) ?_
  intro W base args ds gs before hval0 hW hcnd hsz0 hL _
  have hsz : (DataW.weightsEach Tryd.prog (Tryd.f6.params.toList ++ Rows.frameNamesSpec.plain.varTypes Tryd.prog) (ds ++ gs)).all (· ≤ reachBytes) = true := hsz0
  have hval : ∀ (j : Nat) t v, Tryd.f6.params[j]? = some t → args[j]? = some v → Value.okWide Tryd.prog W .any base t v := hval0
  have hW' := hW
  obtain ⟨p, q, hA0, hV, rfl, hfz, hnd⟩ := hW
  have hA : DataW.TrodAll enc Tryd.prog W 0 (fun _ => true) true Tryd.f6.params.toList args.toList ds p := hA0
  rw [Tryd.params6] at hA hval hsz
  obtain ⟨v0, vs0, d0, ds0, p0, q0, hargs, rfl, rfl, h0, r0⟩ := trodAll_cons hA
  obtain ⟨v1, vs1, d1, ds1, p1, q1, rfl, rfl, rfl, h1, r1⟩ := trodAll_cons r0
  obtain ⟨v2, vs2, d2, ds2, p2, q2, rfl, rfl, rfl, h2, r2⟩ := trodAll_cons r1
  obtain ⟨rfl, rfl, rfl⟩ := trodAll_nil r2
  obtain rfl : args = #[v0, v1, v2] := by cases args; simp_all
  obtain ⟨rfl, rfl⟩ := trodVars_none hV
  obtain ⟨z0, b0, hb0, g0, lt0⟩ := open_bytes (e := 5) hsz (j := 0) (t := 23) rfl rfl Tryd.underlying23 Tryd.underlying5 (by kernel_rfl) (by kernel_rfl) (hval 0 23 v0 rfl rfl) h0
  obtain ⟨a1, rfl, rfl, rfl, w1⟩ := open_int Tryd.underlying3 (hval 1 3 v1 rfl rfl) h1
  obtain ⟨a2, rfl, rfl, rfl, y2⟩ := open_string Tryd.underlying9 (hval 2 9 v2 rfl rfl) h2
  have w2 : a2.size ≤ 140737488351232 := by
    have z := sized_string hsz (j := 2) (t := 9) rfl rfl
    rw [Array.length_toList] at z
    exact z
  have hT := globs (tabs hL)
  clear hA0 hval0 hsz0 hsz
  obtain ⟨⟨u2⟩⟩ := a2
  have w2 : u2.length < 2 ^ 60 := Nat.lt_of_le_of_lt (show u2.length ≤ 140737488351232 from w2) (by decide)
  refine (walk_law (P := Tryd.prog) noX (Q.names_true (z := z0) (b := b0) (at_ := a1) (u := u2) (H := []) hb0 w2) (imOf_ok W) (args_three g0 rfl (.flat (.int _ _)) rfl (.flat (.str _)) rfl) hT).mono fun e W' ⟨he, bel⟩ => ?_
  subst he
  exact ⟨_, rfl, _, _, _, [], _, [], hW', trodAll_mk1 (shut_bool Tryd.underlying4 _), (trodAll_cons_mk (Below.trod laidOut (by kernel_rfl) (of_decide_eq_true (by kernel_rfl)) h0 bel lt0) (trodAll_cons_mk (shut_int Tryd.underlying3 w1) (trodAll_cons_mk (shut_string Tryd.underlying9 y2) trodAll_mk0))), rfl, bel.frame _, fun h => by cases h⟩
theorem over : Rows.FrameNamesSaid :=
  OpenClaim.holds_of_wide 6 Tryd.f6 rfl rfl rfl rfl rfl rfl rfl ⟨rfl, rfl, rfl, rfl, rfl⟩ rfl rfl rfl rfl rfl (by kernel_rfl) Tryd.func6 (by kernel_rfl)
    (of_decide_eq_true (by kernel_rfl)) (by unfold Func.isWrapper; first | (rw [if_pos (by decide +kernel)]; kernel_rfl) | (rw [if_neg (by decide +kernel)]; exact ⟨rfl, rfl⟩))
    (fun os started H enc _ => lifted os started H enc)
theorem proved : Rows.FrameNamesCardSaid :=
  Claim7.holds_tied_plain_at .later [] [.data, .pinned] true (true, "5d464719b080d10407d27333bc00ffa2fcaebac15b9256bfe12050993b8306d2") true over (fun _ h => by cases h) (by kernel_rfl) (fun _ h => by cases h) frameNames_row_tie rfl ⟨rfl, rfl⟩ (by kernel_rfl) rfl
    (fun f fn hf hfn => by
      obtain rfl : f = 6 := Option.some.inj ((show Tryd.prog.funcNamed "ratchet/ratchetlaw02.FrameNames" = some 6 by kernel_rfl).symm.trans hf) |>.symm
      obtain rfl : fn = Tryd.f6 := (Option.some.inj (Tryd.func6.symm.trans hfn)).symm
      exact ⟨by kernel_rfl, fun j t ht => by
        rw [Tryd.params6] at ht
        have hm : t ∈ [23, 3, 9] := by simpa using Array.mem_of_getElem? ht
        have hall : ([23, 3, 9].all fun u => !Tryd.prog.wantsStandIn u) = true := by kernel_rfl
        exact (show Tryd.prog.wantsStandIn t = false by simpa using List.all_eq_true.1 hall t hm)⟩)
    (by kernel_rfl)
#print axioms proved
end Go.Proofs.YtiamjepnlnjlfaaDoor.frameNames
namespace Go.Proofs.YtiamjepnlnjlfaaDoor
/-- The card, under a short name, for the claim. -/
theorem frameNames_holds : Rows.FrameNamesCardSaid := frameNames.proved
end Go.Proofs.YtiamjepnlnjlfaaDoor
