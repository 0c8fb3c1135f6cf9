/- The law FrameJoins: the Go function answers true for every input of bulk at most 1048576, and its arguments read afterwards as they read before (the statement Rows.FrameJoinsUptoCardSaid). Conditions: the two tables of Go's package unicode/utf8 hold what the program's text lays in them (the card ties that to the text); none beyond the statement's own. -/
import Derived.Test.YtiamjepnlnjlfaaDoorTie
import Derived.Test.YtiamjepnlnjlfaaDoorCards
import Derived.Test.YtiamjepnlnjlfaaDoorPiJ3
import Derived.Test.YtiamjepnlnjlfaaDoorBulk
import Derived.WalkKit
import Derived.ProofKit
import Derived.OpenShut
import Derived.ShutString
import Derived.ChangeOld
import Derived.Below
import Derived.SizedLaws
import Derived.Lay
import Derived.Lib.LaidU8
import Derived.Deep.DeepHandedRow
import Derived.SevenTiedAt
import Derived.Stop.Joined
import Derived.LaidMore
namespace Go.Proofs.YtiamjepnlnjlfaaDoor.frameJoinsUpto
open Go.ChangeShapes Go.WideShapes Go.ChangeAt Go.RowKit
open Go.ChangeMaps (open_string shut_string)
open Go.Proofs.YtiamjepnlnjlfaaDoor.Pi
set_option linter.unusedVariables false
theorem own : ownKnob Tryd.prog.godebug = none := by kernel_rfl
theorem laidOut : laidOutB Tryd.prog = true := by kernel_rfl
theorem first_eq : Pinned.utf8First = Lib.firstData := by kernel_rfl
theorem accept_eq : Rows.laid_unicode_utf8_acceptRanges = Lib.acceptData := by kernel_rfl
theorem num0 : Tryd.prog.globalNamed "unicode/utf8.first" = some 0 := by kernel_rfl
theorem num1 : Tryd.prog.globalNamed "unicode/utf8.acceptRanges" = some 1 := by kernel_rfl
theorem ty0 : (Tryd.prog.globals[0]?).map (·.type) = some 89 := by kernel_rfl
theorem ty1 : (Tryd.prog.globals[1]?).map (·.type) = some 92 := by kernel_rfl
theorem cellsB : Tryd.prog.cellsOf 5 = 1 := by kernel_rfl
theorem cellsP : Tryd.prog.cellsOf 91 = 2 := by kernel_rfl
theorem pairs : ∀ (i : Nat) (f : Field), (#[⟨"lo", 5, 0, false, "", "unicode/utf8", 0⟩, ⟨"hi", 5, 1, false, "", "unicode/utf8", 1⟩] : Array Field)[i]? = some f → Tryd.prog.underlying f.type = some (.int .u8) ∧ f.offset = i ∧ Tryd.prog.cellsOf f.type = 1 := fun i f hi => by
  rcases i with _ | _ | i
  · simp at hi; subst hi; exact ⟨Tryd.underlying5, rfl, cellsB⟩
  · simp at hi; subst hi; exact ⟨Tryd.underlying5, rfl, cellsB⟩
  · simp at hi
theorem first_cells {W : World} (h : Lib.VarReads Tryd.prog W "unicode/utf8.first" Lib.firstData) (c : Nat) (hc : c < 256) : W.cell? ⟨0, c, none⟩ = some (.int .u8 (Lib.firstT c)) := by
  obtain ⟨g, t, cs, fuel, p, hg, ht, hv, hd⟩ := h
  cases num0.symm.trans hg
  cases ty0.symm.trans ht
  have e := Lib.cells_of_tab Tryd.underlying89 Tryd.underlying5 cellsB (by kernel_rfl) hd
  rw [World.var?_cell hg hv c, ← Array.getElem?_toList, e]
  unfold Lib.firstTab
  rw [List.getElem?_map, List.getElem?_map, List.getElem?_range hc]
  rfl
theorem accept_cells {W : World} (h : Lib.VarReads Tryd.prog W "unicode/utf8.acceptRanges" Lib.acceptData) (i : Nat) (hi : i < 16) : W.cell? ⟨1, 2 * i, none⟩ = some (.int .u8 (Lib.accLo i)) ∧ W.cell? ⟨1, 2 * i + 1, none⟩ = some (.int .u8 (Lib.accHi i)) := by
  obtain ⟨g, t, cs, fuel, p, hg, ht, hv, hd⟩ := h
  cases num1.symm.trans hg
  cases ty1.symm.trans ht
  obtain ⟨fuel2, d, q, hd1, hd2⟩ := Lib.array_elem Tryd.underlying92 hd i hi
  rw [List.getElem?_map, List.getElem?_range hi] at hd1
  cases hd1
  rw [cellsP] at hd2
  have e := Lib.ints_of_struct Tryd.underlying91 pairs (by rw [cellsP]; rfl) hd2
  have e0 := congrArg (fun l => l[0]?) e
  have e1 := congrArg (fun l => l[1]?) e
  simp only [List.getElem?_take, List.getElem?_drop, Nat.add_zero] at e0 e1
  rw [World.var?_cell hg hv (2 * i), World.var?_cell hg hv (2 * i + 1), ← Array.getElem?_toList, ← Array.getElem?_toList, Nat.mul_comm 2 i]
  exact ⟨by simpa using e0, by simpa using e1⟩
/-- What the condition gives: the tables' cells. -/
theorem tabs {W : World} (h : laidMetH Tryd.prog Rows.frameJoinsUptoRow.laid W) : Lib.Utf8Tabs 0 1 W := by
  rw [MakeChecks.laidMetH_plain _ _ _ (by kernel_rfl)] at h
  exact ⟨first_cells (first_eq ▸ Lib.laidMet.reads h (.tail _ (.head _))), accept_cells (accept_eq ▸ Lib.laidMet.reads h (.head _))⟩
theorem acc_at : accC = (List.range 32).map fun j => PV.int .u8 (if j % 2 = 0 then Lib.accLo (j / 2) else Lib.accHi (j / 2)) := by kernel_rfl
theorem globs {W : World} (h : Lib.Utf8Tabs 0 1 W) : GlobOk (imOf W) := fun b => by
  by_cases h0 : b = 0
  · subst h0
    refine .inr ?_
    rw [GT_0]
    have e : ∀ (j : Nat) (c : PV), firstC[j]? = some c → j < 256 ∧ c = .int .u8 (Lib.firstT j) := fun j c hj => by
      unfold firstC at hj
      rw [List.getElem?_map] at hj
      by_cases hl : j < 256
      · rw [List.getElem?_range hl] at hj; exact ⟨hl, (Option.some.inj hj).symm⟩
      · rw [List.getElem?_eq_none (by simp; omega)] at hj; cases hj
    refine .elem (fun j => .int .u8 (Lib.firstT j)) (fun j c hj => ?_) (fun j c hj => ?_)
    · rw [Nat.zero_add]; exact h.1 j (e j c hj).1
    · rw [(e j c hj).2]; exact .int _ _
  · by_cases h1 : b = 1
    · subst h1
      refine .inr ?_
      rw [GT_1]
      have e : ∀ (j : Nat) (c : PV), accC[j]? = some c → j / 2 < 16 ∧ c = .int .u8 (if j % 2 = 0 then Lib.accLo (j / 2) else Lib.accHi (j / 2)) := fun j c hj => by
        rw [acc_at, List.getElem?_map] at hj
        by_cases hl : j < 32
        · rw [List.getElem?_range hl] at hj; exact ⟨by omega, (Option.some.inj hj).symm⟩
        · rw [List.getElem?_eq_none (by simp; omega)] at hj; cases hj
      refine .elem (fun j => .int .u8 (if j % 2 = 0 then Lib.accLo (j / 2) else Lib.accHi (j / 2))) (fun j c hj => ?_) (fun j c hj => ?_)
      · rw [Nat.zero_add]
        have h2 := h.2 (j / 2) (e j c hj).1
        by_cases hm : j % 2 = 0
        · rw [if_pos hm]
          have e2 : 2 * (j / 2) = j := by omega
          have := h2.1
          rw [e2] at this
          exact this
        · rw [if_neg hm]
          have e2 : 2 * (j / 2) + 1 = j := by omega
          have := h2.2
          rw [e2] at this
          exact this
      · rw [(e j c hj).2]; exact .int _ _
    · exact .inl (GT_more h0 h1)
mutual
theorem bulk_le {H : Type} : ∀ d : DataW H, bulk d ≤ Rows.uptoBulk d
  | .lit l => by cases l <;> simp [bulk, Rows.uptoBulk]
  | .nil => by simp [bulk, Rows.uptoBulk]
  | .ptr d => by have := bulk_le d; simp only [bulk, Rows.uptoBulk]; omega
  | .slice elems spare => by have h1 := bulkL_le elems; have h2 := bulkL_le spare; simp only [bulk, Rows.uptoBulk]; omega
  | .agg parts => by have := bulkL_le parts; simp only [bulk, Rows.uptoBulk]; omega
  | .iface _ d => by simp [bulk, Rows.uptoBulk]
  | .map e => by simp [bulk, Rows.uptoBulk]
  | .held h => by simp [bulk, Rows.uptoBulk]
theorem bulkL_le {H : Type} : ∀ l : List (DataW H), bulkL l ≤ Rows.uptoBulkAll l
  | [] => by simp [bulkL, Rows.uptoBulkAll]
  | d :: r => by have h1 := bulk_le d; have h2 := bulkL_le r; simp only [bulkL, Rows.uptoBulkAll]; omega
end
set_option maxRecDepth 100000
theorem dec_SC {H : Type} (enc : TypeId × Value → H) (W : World) (n : Nat) : Dec (DecArgs.mk enc Tryd.prog W 0 (fun _ => true) true) n 32 Q.cs_SC Q.ok_SC Q.ms_SC :=
  Dec.map (dec_struct Tryd.underlying32 rfl (fun _ _ => (decF_cons (dec_int Tryd.underlying3) (decF_cons (dec_str Tryd.underlying9) (decF_cons (dec_list (ec := Q.encU8) (sz := 1) Tryd.underlying23 (fun _ _ => (dec_int Tryd.underlying5)) (fun _ => (by first | rfl | kernel_rfl)) (by kernel_rfl)) (decF_cons (dec_int Tryd.underlying3) decF_nil)))))) (fun p => (⟨p.1, p.2.1, p.2.2.1, p.2.2.2.1⟩ : Q.SC)) (fun _ => rfl) (fun _ h => h) (fun _ => Nat.le_refl _)
theorem plain_all : ([3, 9, 5, 23, 32, 22] : List TypeId).all (plainT Tryd.prog [3, 9, 5, 23, 32, 22]) = true := by kernel_rfl
theorem met (os : Os) : laidMetH Tryd.prog Rows.frameJoinsUptoRow.laid ((World.laidAll Tryd.prog os Rows.frameJoinsUptoRow.laid).forCall (fun _ _ => 0) ⟨#[], #[.slice none 0 0, .int .i64 0, .string .empty], []⟩).memory := by
  rw [MakeChecks.laidMetH_plain _ _ _ (by kernel_rfl)]
  exact laidMet_laidAll _ (by kernel_rfl) (by kernel_rfl)
set_option maxRecDepth 100000 in
theorem reads (os : Os) {H : Type} (enc : TypeId × Value → H) : ∃ places, DataW.whole enc Tryd.prog ((World.laidAll Tryd.prog os Rows.frameJoinsUptoRow.laid).forCall (fun _ _ => 0) ⟨#[], #[.slice none 0 0, .int .i64 0, .string .empty], []⟩).memory Tryd.f3.params.toList Rows.frameJoinsSpec.vars false (#[.slice none 0 0, .int .i64 0, .string .empty] : Array Value).toList 8 = some ([.nil, .lit (.int .i64 0), .lit (.string [])], [], places) :=
  ⟨[], by kernel_rfl⟩
set_option maxRecDepth 100000 in
theorem lifted (os : Os) (started : os.Started) (H : Type) (enc : TypeId × Value → H) (F : Stop.Interp) :
    ReturnsInHanded {} Tryd.checked os 3 .any ((Rows.OpenSpec.upto Rows.frameJoinsSpec).preRow enc Tryd.prog Tryd.f3 Rows.frameJoinsUptoRow.domain false Rows.frameJoinsUptoRow.laid) (((Rows.OpenSpec.upto Rows.frameJoinsSpec).at F).post enc Tryd.prog Tryd.f3 false true false false) := by
  obtain ⟨places, hx⟩ := reads os enc
  refine returnsInHanded_of_row (C := Tryd.checked) (s := (Rows.OpenSpec.upto Rows.frameJoinsSpec)) own started (by kernel_rfl) Tryd.func3
    (witness_row_at (enc := enc) (C := Tryd.checked) false (World.laidAll Tryd.prog os Rows.frameJoinsUptoRow.laid) #[.slice none 0 0, .int .i64 0, .string .empty] (World.laidAll_os _ _ _) (by kernel_rfl) (by kernel_rfl) (by kernel_rfl)
      (OpenSpec.preRow_of_cond 8 hx (by kernel_rfl) (fun k hk => by cases hk; kernel_rfl) (by kernel_rfl) (met os))) ?_
  intro W base args ds gs before hval0 hW _ hcond hsz0 hL _ _
  have hsz : (DataW.weightsEach Tryd.prog (Tryd.f3.params.toList ++ (Rows.OpenSpec.upto Rows.frameJoinsSpec).bare.plain.varTypes Tryd.prog) (ds ++ gs)).all (· ≤ reachBytes) = true := hsz0
  have hk := hcond _ rfl
  have hval : ∀ (j : Nat) t v, Tryd.f3.params[j]? = some t → args[j]? = some v → Value.okWide Tryd.prog W .any base t v := hval0
  have hW' := hW
  obtain ⟨p, q, hA0, hV, rfl, hfz, hnd⟩ := hW
  have hA : DataW.TrodAll enc Tryd.prog W 0 (fun _ => true) true Tryd.f3.params.toList args.toList ds p := hA0
  rw [Tryd.params3] at hA hval hsz
  obtain ⟨v0, vs0, d0, ds0, p0, q0, hargs, rfl, rfl, h0, r0⟩ := trodAll_cons hA
  obtain ⟨v1, vs1, d1, ds1, p1, q1, rfl, rfl, rfl, h1, r1⟩ := trodAll_cons r0
  obtain ⟨v2, vs2, d2, ds2, p2, q2, rfl, rfl, rfl, h2, r2⟩ := trodAll_cons r1
  obtain ⟨rfl, rfl, rfl⟩ := trodAll_nil r2
  obtain rfl : args = #[v0, v1, v2] := by cases args; simp_all
  obtain ⟨rfl, rfl⟩ := trodVars_none hV
  have hb := bulks.bound hk
  simp only [List.append_nil, Rows.uptoBulkAll] at hb
  have k0 := h0
  obtain ⟨n0, hn0⟩ := h0
  have lt0 : ∀ x ∈ p0, x.block < W.heap.size := DataW.trod_lt n0 _ _ _ hn0
  obtain ⟨a0, b0, w0, m0⟩ := (dec_list (G := DecArgs.mk enc Tryd.prog W 0 (fun _ => true) true) (n := n0) (ec := Q.encSC) (sz := 4) Tryd.underlying22 (fun _ _ => (dec_SC enc W _)) (fun _ => (by first | rfl | kernel_rfl)) (by kernel_rfl)) _ _ hn0
  have o0 := (told_ok plain_all (fun _ => rfl) n0 22 _ _ rfl hn0).2
  have mm0 := Nat.le_trans m0 (bulk_le d0)
  simp only at mm0
  rw [b0] at o0
  have g0 := rep_cell Tryd.underlying22 (fun _ h => by cases h) (fun _ _ h => by cases h) (hval 0 22 v0 rfl rfl) o0
  obtain ⟨a1, rfl, rfl, rfl, w1⟩ := open_int Tryd.underlying3 (hval 1 3 v1 rfl rfl) h1
  obtain ⟨a2, rfl, rfl, rfl, y2⟩ := open_string Tryd.underlying9 (hval 2 9 v2 rfl rfl) h2
  have w2 : a2.size ≤ 140737488351232 := by
    have z := sized_string hsz (j := 2) (t := 9) rfl rfl
    rw [Array.length_toList] at z
    exact z
  obtain ⟨⟨u2⟩⟩ := a2
  have w2 : u2.length < 2 ^ 60 := Nat.lt_of_le_of_lt (show u2.length ≤ 140737488351232 from w2) (by decide)
  have hT := globs (tabs hL)
  clear hA0 hval0 hsz0 hsz
  refine (walk_law (P := Tryd.prog) noX (Q.joins_of (x := a0) (id := a1) (nm := u2) (H := []) w0 (show sumL Q.ms_SC a0.l ≤ 1048576 by omega)) (imOf_ok W) (args_cons g0 strip_Z (args_cons (.flat (.int _ _)) rfl (args_cons (.flat (.str _)) rfl args_nil))) hT).mono fun e W' ⟨he, bel⟩ => ?_
  subst he
  exact ⟨_, rfl, _, _, _, [], _, [], hW', trodAll_mk1 (shut_bool Tryd.underlying4 _), (trodAll_cons_mk (Below.trod laidOut (by kernel_rfl) (of_decide_eq_true (by kernel_rfl)) k0 bel lt0) (trodAll_cons_mk (shut_int Tryd.underlying3 w1) (trodAll_cons_mk (shut_string Tryd.underlying9 y2) trodAll_mk0))), rfl, bel.frame _, fun h => by cases h⟩
theorem over : Rows.FrameJoinsUptoSaid :=
  OpenClaim.holds_of_cond 3 Tryd.f3 rfl rfl rfl rfl rfl rfl rfl ⟨rfl, rfl, rfl, rfl, rfl⟩ rfl rfl rfl rfl rfl (by kernel_rfl) Tryd.func3 (by kernel_rfl)
    (of_decide_eq_true (by kernel_rfl)) (by unfold Func.isWrapper; first | (rw [if_pos (by decide +kernel)]; kernel_rfl) | (rw [if_neg (by decide +kernel)]; exact ⟨rfl, rfl⟩))
    (fun os started H enc _ F => by rw [OpenClaim.pre_eq_preRow]; exact lifted os started H enc F)
theorem plain (f : FuncId) (fn : Func) (hf : Tryd.pinned.checked.prog.funcNamed "ratchet/ratchetlaw02.FrameJoins" = some f) (hfn : Tryd.pinned.checked.prog.funcs[f]? = some fn) :
    true = Tryd.pinned.checked.prog.looks [] ∧ ∀ (j : Nat) t, fn.params[j]? = some t → Tryd.pinned.checked.prog.wantsStandIn t = false := by
  obtain rfl : f = 3 := Option.some.inj ((show Tryd.prog.funcNamed "ratchet/ratchetlaw02.FrameJoins" = some 3 by kernel_rfl).symm.trans hf) |>.symm
  obtain rfl : fn = Tryd.f3 := (Option.some.inj (Tryd.func3.symm.trans hfn)).symm
  refine ⟨by kernel_rfl, fun j t ht => ?_⟩
  rw [Tryd.params3] at ht
  have hm : t ∈ [22, 3, 9] := by simpa using Array.mem_of_getElem? ht
  have hall : ([22, 3, 9].all fun u => !Tryd.prog.wantsStandIn u) = true := by kernel_rfl
  exact (show Tryd.prog.wantsStandIn t = false by simpa using List.all_eq_true.1 hall t hm)
theorem proved : Rows.FrameJoinsUptoCardSaid :=
  Claim7.holds_tied_plain_at .later [] _ _ _ _ over (fun _ h => by cases h) (by kernel_rfl) (fun _ h => by cases h) frameJoinsUpto_row_tie rfl ⟨rfl, rfl⟩ (by kernel_rfl) rfl plain (by kernel_rfl)
#print axioms proved
end Go.Proofs.YtiamjepnlnjlfaaDoor.frameJoinsUpto
namespace Go.Proofs.YtiamjepnlnjlfaaDoor
/-- The card, under a short name, for the claim. -/
theorem frameJoinsUpto_holds : Rows.FrameJoinsUptoCardSaid := frameJoinsUpto.proved
end Go.Proofs.YtiamjepnlnjlfaaDoor
