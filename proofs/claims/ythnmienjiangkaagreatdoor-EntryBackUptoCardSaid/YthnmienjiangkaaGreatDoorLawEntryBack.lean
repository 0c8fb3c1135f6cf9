/- The law EntryBack: the Go function answers true for every input of bulk at most 1048576, and its arguments read afterwards as they read before (the statement Rows.EntryBackUptoCardSaid). Conditions: the two tables of Go's package unicode/utf8 hold what the program's text lays in them (the card ties that to the text); none beyond the statement's own. -/
import Derived.Test.YthnmienjiangkaaGreatDoorTie
import Derived.Test.YthnmienjiangkaaGreatDoorCards
import Derived.Test.YthnmienjiangkaaGreatDoorPiB4
import Derived.Test.YthnmienjiangkaaGreatDoorBulk
import Derived.WalkKit
import Derived.ProofKit
import Derived.OpenShut
import Derived.ShutString
import Derived.ChangeOld
import Derived.Below
import Derived.SizedLaws
import Derived.Lay
import Derived.Lib.LaidU8
import Derived.Deep.DeepHandedRow
import Derived.SevenTiedAt
import Derived.Stop.Joined
import Derived.LaidMore
namespace Go.Proofs.YthnmienjiangkaaGreatDoor.entryBackUpto
open Go.ChangeShapes Go.WideShapes Go.ChangeAt Go.RowKit
open Go.ChangeMaps (open_string shut_string)
open Go.Proofs.YthnmienjiangkaaGreatDoor.Pi
set_option linter.unusedVariables false
theorem own : ownKnob Tryz.prog.godebug = none := by kernel_rfl
theorem laidOut : laidOutB Tryz.prog = true := by kernel_rfl
theorem first_eq : Pinned.utf8First = Lib.firstData := by kernel_rfl
theorem accept_eq : Rows.laid_unicode_utf8_acceptRanges = Lib.acceptData := by kernel_rfl
theorem num0 : Tryz.prog.globalNamed "unicode/utf8.first" = some 0 := by kernel_rfl
theorem num1 : Tryz.prog.globalNamed "unicode/utf8.acceptRanges" = some 1 := by kernel_rfl
theorem ty0 : (Tryz.prog.globals[0]?).map (·.type) = some 203 := by kernel_rfl
theorem ty1 : (Tryz.prog.globals[1]?).map (·.type) = some 206 := by kernel_rfl
theorem cellsB : Tryz.prog.cellsOf 5 = 1 := by kernel_rfl
theorem cellsP : Tryz.prog.cellsOf 205 = 2 := by kernel_rfl
theorem pairs : ∀ (i : Nat) (f : Field), (#[⟨"lo", 5, 0, false, "", "unicode/utf8", 0⟩, ⟨"hi", 5, 1, false, "", "unicode/utf8", 1⟩] : Array Field)[i]? = some f → Tryz.prog.underlying f.type = some (.int .u8) ∧ f.offset = i ∧ Tryz.prog.cellsOf f.type = 1 := fun i f hi => by
  rcases i with _ | _ | i
  · simp at hi; subst hi; exact ⟨Tryz.underlying5, rfl, cellsB⟩
  · simp at hi; subst hi; exact ⟨Tryz.underlying5, rfl, cellsB⟩
  · simp at hi
theorem first_cells {W : World} (h : Lib.VarReads Tryz.prog W "unicode/utf8.first" Lib.firstData) (c : Nat) (hc : c < 256) : W.cell? ⟨0, c, none⟩ = some (.int .u8 (Lib.firstT c)) := by
  obtain ⟨g, t, cs, fuel, p, hg, ht, hv, hd⟩ := h
  cases num0.symm.trans hg
  cases ty0.symm.trans ht
  have e := Lib.cells_of_tab Tryz.underlying203 Tryz.underlying5 cellsB (by kernel_rfl) hd
  rw [World.var?_cell hg hv c, ← Array.getElem?_toList, e]
  unfold Lib.firstTab
  rw [List.getElem?_map, List.getElem?_map, List.getElem?_range hc]
  rfl
theorem accept_cells {W : World} (h : Lib.VarReads Tryz.prog W "unicode/utf8.acceptRanges" Lib.acceptData) (i : Nat) (hi : i < 16) : W.cell? ⟨1, 2 * i, none⟩ = some (.int .u8 (Lib.accLo i)) ∧ W.cell? ⟨1, 2 * i + 1, none⟩ = some (.int .u8 (Lib.accHi i)) := by
  obtain ⟨g, t, cs, fuel, p, hg, ht, hv, hd⟩ := h
  cases num1.symm.trans hg
  cases ty1.symm.trans ht
  obtain ⟨fuel2, d, q, hd1, hd2⟩ := Lib.array_elem Tryz.underlying206 hd i hi
  rw [List.getElem?_map, List.getElem?_range hi] at hd1
  cases hd1
  rw [cellsP] at hd2
  have e := Lib.ints_of_struct Tryz.underlying205 pairs (by rw [cellsP]; rfl) hd2
  have e0 := congrArg (fun l => l[0]?) e
  have e1 := congrArg (fun l => l[1]?) e
  simp only [List.getElem?_take, List.getElem?_drop, Nat.add_zero] at e0 e1
  rw [World.var?_cell hg hv (2 * i), World.var?_cell hg hv (2 * i + 1), ← Array.getElem?_toList, ← Array.getElem?_toList, Nat.mul_comm 2 i]
  exact ⟨by simpa using e0, by simpa using e1⟩
/-- What the condition gives: the tables' cells. -/
theorem tabs {W : World} (h : laidMetH Tryz.prog Rows.entryBackUptoRow.laid W) : Lib.Utf8Tabs 0 1 W := by
  rw [MakeChecks.laidMetH_plain _ _ _ (by kernel_rfl)] at h
  exact ⟨first_cells (first_eq ▸ Lib.laidMet.reads h (.tail _ (.head _))), accept_cells (accept_eq ▸ Lib.laidMet.reads h (.head _))⟩
theorem acc_at : accC = (List.range 32).map fun j => PV.int .u8 (if j % 2 = 0 then Lib.accLo (j / 2) else Lib.accHi (j / 2)) := by kernel_rfl
theorem globs {W : World} (h : Lib.Utf8Tabs 0 1 W) : GlobOk (imOf W) := fun b => by
  by_cases h0 : b = 0
  · subst h0
    refine .inr ?_
    rw [GT_0]
    have e : ∀ (j : Nat) (c : PV), firstC[j]? = some c → j < 256 ∧ c = .int .u8 (Lib.firstT j) := fun j c hj => by
      unfold firstC at hj
      rw [List.getElem?_map] at hj
      by_cases hl : j < 256
      · rw [List.getElem?_range hl] at hj; exact ⟨hl, (Option.some.inj hj).symm⟩
      · rw [List.getElem?_eq_none (by simp; omega)] at hj; cases hj
    refine .elem (fun j => .int .u8 (Lib.firstT j)) (fun j c hj => ?_) (fun j c hj => ?_)
    · rw [Nat.zero_add]; exact h.1 j (e j c hj).1
    · rw [(e j c hj).2]; exact .int _ _
  · by_cases h1 : b = 1
    · subst h1
      refine .inr ?_
      rw [GT_1]
      have e : ∀ (j : Nat) (c : PV), accC[j]? = some c → j / 2 < 16 ∧ c = .int .u8 (if j % 2 = 0 then Lib.accLo (j / 2) else Lib.accHi (j / 2)) := fun j c hj => by
        rw [acc_at, List.getElem?_map] at hj
        by_cases hl : j < 32
        · rw [List.getElem?_range hl] at hj; exact ⟨by omega, (Option.some.inj hj).symm⟩
        · rw [List.getElem?_eq_none (by simp; omega)] at hj; cases hj
      refine .elem (fun j => .int .u8 (if j % 2 = 0 then Lib.accLo (j / 2) else Lib.accHi (j / 2))) (fun j c hj => ?_) (fun j c hj => ?_)
      · rw [Nat.zero_add]
        have h2 := h.2 (j / 2) (e j c hj).1
        by_cases hm : j % 2 = 0
        · rw [if_pos hm]
          have e2 : 2 * (j / 2) = j := by omega
          have := h2.1
          rw [e2] at this
          exact this
        · rw [if_neg hm]
          have e2 : 2 * (j / 2) + 1 = j := by omega
          have := h2.2
          rw [e2] at this
          exact this
      · rw [(e j c hj).2]; exact .int _ _
    · exact .inl (GT_more h0 h1)
mutual
theorem bulk_le {H : Type} : ∀ d : DataW H, bulk d ≤ Rows.uptoBulk d
  | .lit l => by cases l <;> simp [bulk, Rows.uptoBulk]
  | .nil => by simp [bulk, Rows.uptoBulk]
  | .ptr d => by have := bulk_le d; simp only [bulk, Rows.uptoBulk]; omega
  | .slice elems spare => by have h1 := bulkL_le elems; have h2 := bulkL_le spare; simp only [bulk, Rows.uptoBulk]; omega
  | .agg parts => by have := bulkL_le parts; simp only [bulk, Rows.uptoBulk]; omega
  | .iface _ d => by simp [bulk, Rows.uptoBulk]
  | .map e => by simp [bulk, Rows.uptoBulk]
  | .held h => by simp [bulk, Rows.uptoBulk]
theorem bulkL_le {H : Type} : ∀ l : List (DataW H), bulkL l ≤ Rows.uptoBulkAll l
  | [] => by simp [bulkL, Rows.uptoBulkAll]
  | d :: r => by have h1 := bulk_le d; have h2 := bulkL_le r; simp only [bulkL, Rows.uptoBulkAll]; omega
end
set_option maxRecDepth 100000
theorem dec_V {H : Type} (enc : TypeId × Value → H) (W : World) (n : Nat) : Dec (DecArgs.mk enc Tryz.prog W 0 (fun _ => true) true) n 32 Q.cs_V Q.ok_V Q.ms_V :=
  Dec.map (dec_struct Tryz.underlying32 rfl (fun _ _ => (decF_cons (dec_int Tryz.underlying3) (decF_cons (dec_bool Tryz.underlying4) (decF_cons (dec_int Tryz.underlying3) decF_nil))))) (fun p => (⟨p.1, p.2.1, p.2.2.1⟩ : Q.VT)) (fun _ => rfl) (fun _ h => h) (fun _ => Nat.le_refl _)
theorem dec_F {H : Type} (enc : TypeId × Value → H) (W : World) (n : Nat) : Dec (DecArgs.mk enc Tryz.prog W 0 (fun _ => true) true) n 175 Q.cs_F Q.ok_F Q.ms_F :=
  Dec.map (dec_struct Tryz.underlying175 rfl (fun _ _ => (decF_cons (dec_V enc W _) (decF_cons (dec_bool Tryz.underlying4) decF_nil)))) (fun p => (⟨p.1, p.2.1⟩ : Q.FT)) (fun _ => rfl) (fun _ h => h) (fun _ => Nat.le_refl _)
theorem dec_CG {H : Type} (enc : TypeId × Value → H) (W : World) (n : Nat) : Dec (DecArgs.mk enc Tryz.prog W 0 (fun _ => true) true) n 114 Q.cs_CG Q.ok_CG Q.ms_CG :=
  Dec.map (dec_struct Tryz.underlying114 rfl (fun _ _ => (decF_cons (dec_int Tryz.underlying3) (decF_cons (dec_list (ec := Q.encV) (sz := 3) Tryz.underlying111 (fun _ _ => (dec_V enc W _)) (fun _ => (by first | rfl | kernel_rfl)) (by kernel_rfl)) (decF_cons (dec_list (ec := Q.encV) (sz := 3) Tryz.underlying111 (fun _ _ => (dec_V enc W _)) (fun _ => (by first | rfl | kernel_rfl)) (by kernel_rfl)) (decF_cons (dec_list (ec := Q.encF) (sz := 4) Tryz.underlying112 (fun _ _ => (dec_F enc W _)) (fun _ => (by first | rfl | kernel_rfl)) (by kernel_rfl)) decF_nil)))))) (fun p => (⟨p.1, p.2.1, p.2.2.1, p.2.2.2.1⟩ : Q.CG)) (fun _ => rfl) (fun _ h => h) (fun _ => Nat.le_refl _)
theorem dec_SG {H : Type} (enc : TypeId × Value → H) (W : World) (n : Nat) : Dec (DecArgs.mk enc Tryz.prog W 0 (fun _ => true) true) n 116 Q.cs_SG Q.ok_SG Q.ms_SG :=
  Dec.map (dec_struct Tryz.underlying116 rfl (fun _ _ => (decF_cons (dec_bool Tryz.underlying4) (decF_cons (dec_list (ec := Q.encI) (sz := 1) Tryz.underlying110 (fun _ _ => (dec_int Tryz.underlying3)) (fun _ => (by first | rfl | kernel_rfl)) (by kernel_rfl)) (decF_cons (dec_CG enc W _) decF_nil))))) (fun p => (⟨p.1, p.2.1, p.2.2.1⟩ : Q.SG)) (fun _ => rfl) (fun _ h => h) (fun _ => Nat.le_refl _)
theorem dec_RG {H : Type} (enc : TypeId × Value → H) (W : World) (n : Nat) : Dec (DecArgs.mk enc Tryz.prog W 0 (fun _ => true) true) n 68 Q.cs_RG Q.ok_RG Q.ms_RG :=
  Dec.map (dec_struct Tryz.underlying68 rfl (fun _ _ => (decF_cons (dec_list (ec := Q.encSG) (sz := 6) Tryz.underlying66 (fun _ _ => (dec_SG enc W _)) (fun _ => (by first | rfl | kernel_rfl)) (by kernel_rfl)) (decF_cons (dec_bool Tryz.underlying4) decF_nil)))) (fun p => (⟨p.1, p.2.1⟩ : Q.RG)) (fun _ => rfl) (fun _ h => h) (fun _ => Nat.le_refl _)
theorem dec_LT {H : Type} (enc : TypeId × Value → H) (W : World) (n : Nat) : Dec (DecArgs.mk enc Tryz.prog W 0 (fun _ => true) true) n 25 Q.cs_LT Q.ok_LT Q.ms_LT :=
  Dec.map (dec_struct Tryz.underlying25 rfl (fun _ _ => (decF_cons (dec_bool Tryz.underlying4) (decF_cons (dec_int Tryz.underlying23) (decF_cons (dec_int Tryz.underlying23) (decF_cons (dec_bool Tryz.underlying4) decF_nil)))))) (fun p => (⟨p.1, p.2.1, p.2.2.1, p.2.2.2.1⟩ : Q.LT)) (fun _ => rfl) (fun _ h => h) (fun _ => Nat.le_refl _)
theorem dec_TB {H : Type} (enc : TypeId × Value → H) (W : World) (n : Nat) : Dec (DecArgs.mk enc Tryz.prog W 0 (fun _ => true) true) n 34 Q.cs_TB Q.ok_TB Q.ms_TB :=
  Dec.map (dec_struct Tryz.underlying34 rfl (fun _ _ => (decF_cons (dec_V enc W _) (decF_cons (dec_LT enc W _) decF_nil)))) (fun p => (⟨p.1, p.2.1⟩ : Q.TB)) (fun _ => rfl) (fun _ h => h) (fun _ => Nat.le_refl _)
theorem dec_GO {H : Type} (enc : TypeId × Value → H) (W : World) (n : Nat) : Dec (DecArgs.mk enc Tryz.prog W 0 (fun _ => true) true) n 40 Q.cs_GO Q.ok_GO Q.ms_GO :=
  Dec.map (dec_struct Tryz.underlying40 rfl (fun _ _ => (decF_cons (dec_V enc W _) (decF_cons (dec_bool Tryz.underlying4) decF_nil)))) (fun p => (⟨p.1, p.2.1⟩ : Q.GO)) (fun _ => rfl) (fun _ h => h) (fun _ => Nat.le_refl _)
theorem dec_XT {H : Type} (enc : TypeId × Value → H) (W : World) (n : Nat) : Dec (DecArgs.mk enc Tryz.prog W 0 (fun _ => true) true) n 50 Q.cs_XT Q.ok_XT Q.ms_XT :=
  Dec.map (dec_struct Tryz.underlying50 rfl (fun _ _ => (decF_cons (dec_int Tryz.underlying3) (decF_cons (dec_int Tryz.underlying3) (decF_cons (dec_TB enc W _) (decF_cons (dec_LT enc W _) (decF_cons (dec_GO enc W _) decF_nil))))))) (fun p => (⟨p.1, p.2.1, p.2.2.1, p.2.2.2.1, p.2.2.2.2.1⟩ : Q.XT)) (fun _ => rfl) (fun _ h => h) (fun _ => Nat.le_refl _)
theorem dec_IM {H : Type} (enc : TypeId × Value → H) (W : World) (n : Nat) : Dec (DecArgs.mk enc Tryz.prog W 0 (fun _ => true) true) n 52 Q.cs_IM Q.ok_IM Q.ms_IM :=
  Dec.map (dec_struct Tryz.underlying52 rfl (fun _ _ => (decF_cons (dec_str Tryz.underlying9) (decF_cons (dec_str Tryz.underlying9) (decF_cons (dec_XT enc W _) decF_nil))))) (fun p => (⟨p.1, p.2.1, p.2.2.1⟩ : Q.IM)) (fun _ => rfl) (fun _ h => h) (fun _ => Nat.le_refl _)
theorem plain_all : ([4, 3, 110, 32, 111, 175, 112, 114, 116, 66, 68, 9, 23, 25, 34, 40, 50, 52, 5, 22] : List TypeId).all (plainT Tryz.prog [4, 3, 110, 32, 111, 175, 112, 114, 116, 66, 68, 9, 23, 25, 34, 40, 50, 52, 5, 22]) = true := by kernel_rfl
theorem met (os : Os) : laidMetH Tryz.prog Rows.entryBackUptoRow.laid ((World.laidAll Tryz.prog os Rows.entryBackUptoRow.laid).forCall (fun _ _ => 0) ⟨#[], #[.agg #[.slice none 0 0, .bool false], .agg #[.string .empty, .string .empty, .int .i64 0, .int .i64 0, .int .i64 0, .bool false, .int .i64 0, .bool false, .int .u64 0, .int .u64 0, .bool false, .bool false, .int .u64 0, .int .u64 0, .bool false, .int .i64 0, .bool false, .int .i64 0, .bool false], .slice none 0 0, .slice none 0 0], []⟩).memory := by
  rw [MakeChecks.laidMetH_plain _ _ _ (by kernel_rfl)]
  exact laidMet_laidAll _ (by kernel_rfl) (by kernel_rfl)
set_option maxRecDepth 100000 in
theorem reads (os : Os) {H : Type} (enc : TypeId × Value → H) : ∃ places, DataW.whole enc Tryz.prog ((World.laidAll Tryz.prog os Rows.entryBackUptoRow.laid).forCall (fun _ _ => 0) ⟨#[], #[.agg #[.slice none 0 0, .bool false], .agg #[.string .empty, .string .empty, .int .i64 0, .int .i64 0, .int .i64 0, .bool false, .int .i64 0, .bool false, .int .u64 0, .int .u64 0, .bool false, .bool false, .int .u64 0, .int .u64 0, .bool false, .int .i64 0, .bool false, .int .i64 0, .bool false], .slice none 0 0, .slice none 0 0], []⟩).memory Tryz.f4.params.toList Rows.entryBackSpec.vars false (#[.agg #[.slice none 0 0, .bool false], .agg #[.string .empty, .string .empty, .int .i64 0, .int .i64 0, .int .i64 0, .bool false, .int .i64 0, .bool false, .int .u64 0, .int .u64 0, .bool false, .bool false, .int .u64 0, .int .u64 0, .bool false, .int .i64 0, .bool false, .int .i64 0, .bool false], .slice none 0 0, .slice none 0 0] : Array Value).toList 8 = some ([.agg [.nil, .lit (.bool false)], .agg [.lit (.string []), .lit (.string []), .agg [.lit (.int .i64 0), .lit (.int .i64 0), .agg [.agg [.lit (.int .i64 0), .lit (.bool false), .lit (.int .i64 0)], .agg [.lit (.bool false), .lit (.int .u64 0), .lit (.int .u64 0), .lit (.bool false)]], .agg [.lit (.bool false), .lit (.int .u64 0), .lit (.int .u64 0), .lit (.bool false)], .agg [.agg [.lit (.int .i64 0), .lit (.bool false), .lit (.int .i64 0)], .lit (.bool false)]]], .nil, .nil], [], places) :=
  ⟨[], by kernel_rfl⟩
set_option maxRecDepth 100000 in
theorem lifted (os : Os) (started : os.Started) (H : Type) (enc : TypeId × Value → H) (F : Stop.Interp) :
    ReturnsInHanded {} Tryz.checked os 4 .any ((Rows.OpenSpec.upto Rows.entryBackSpec).preRow enc Tryz.prog Tryz.f4 Rows.entryBackUptoRow.domain false Rows.entryBackUptoRow.laid) (((Rows.OpenSpec.upto Rows.entryBackSpec).at F).post enc Tryz.prog Tryz.f4 false true false false) := by
  obtain ⟨places, hx⟩ := reads os enc
  refine returnsInHanded_of_row (C := Tryz.checked) (s := (Rows.OpenSpec.upto Rows.entryBackSpec)) own started (by kernel_rfl) Tryz.func4
    (witness_row_at (enc := enc) (C := Tryz.checked) false (World.laidAll Tryz.prog os Rows.entryBackUptoRow.laid) #[.agg #[.slice none 0 0, .bool false], .agg #[.string .empty, .string .empty, .int .i64 0, .int .i64 0, .int .i64 0, .bool false, .int .i64 0, .bool false, .int .u64 0, .int .u64 0, .bool false, .bool false, .int .u64 0, .int .u64 0, .bool false, .int .i64 0, .bool false, .int .i64 0, .bool false], .slice none 0 0, .slice none 0 0] (World.laidAll_os _ _ _) (by kernel_rfl) (by kernel_rfl) (by kernel_rfl)
      (OpenSpec.preRow_of_cond 8 hx (by kernel_rfl) (fun k hk => by cases hk; kernel_rfl) (by kernel_rfl) (met os))) ?_
  intro W base args ds gs before hval0 hW _ hcond hsz0 hL _ _
  have hsz : (DataW.weightsEach Tryz.prog (Tryz.f4.params.toList ++ (Rows.OpenSpec.upto Rows.entryBackSpec).bare.plain.varTypes Tryz.prog) (ds ++ gs)).all (· ≤ reachBytes) = true := hsz0
  have hk := hcond _ rfl
  have hval : ∀ (j : Nat) t v, Tryz.f4.params[j]? = some t → args[j]? = some v → Value.okWide Tryz.prog W .any base t v := hval0
  have hW' := hW
  obtain ⟨p, q, hA0, hV, rfl, hfz, hnd⟩ := hW
  have hA : DataW.TrodAll enc Tryz.prog W 0 (fun _ => true) true Tryz.f4.params.toList args.toList ds p := hA0
  rw [Tryz.params4] at hA hval hsz
  obtain ⟨v0, vs0, d0, ds0, p0, q0, hargs, rfl, rfl, h0, r0⟩ := trodAll_cons hA
  obtain ⟨v1, vs1, d1, ds1, p1, q1, rfl, rfl, rfl, h1, r1⟩ := trodAll_cons r0
  obtain ⟨v2, vs2, d2, ds2, p2, q2, rfl, rfl, rfl, h2, r2⟩ := trodAll_cons r1
  obtain ⟨v3, vs3, d3, ds3, p3, q3, rfl, rfl, rfl, h3, r3⟩ := trodAll_cons r2
  obtain ⟨rfl, rfl, rfl⟩ := trodAll_nil r3
  obtain rfl : args = #[v0, v1, v2, v3] := by cases args; simp_all
  obtain ⟨rfl, rfl⟩ := trodVars_none hV
  have hb := bulks.bound hk
  simp only [List.append_nil, Rows.uptoBulkAll] at hb
  have k0 := h0
  obtain ⟨n0, hn0⟩ := h0
  have lt0 : ∀ x ∈ p0, x.block < W.heap.size := DataW.trod_lt n0 _ _ _ hn0
  obtain ⟨a0, b0, w0, m0⟩ := (dec_RG enc W n0) _ _ hn0
  have o0 := (told_ok plain_all (fun _ => rfl) n0 68 _ _ rfl hn0).2
  have mm0 := Nat.le_trans m0 (bulk_le d0)
  rw [b0] at o0
  have g0 := rep_agg Tryz.underlying68 (hval 0 68 v0 rfl rfl) o0
  have k1 := h1
  obtain ⟨n1, hn1⟩ := h1
  have lt1 : ∀ x ∈ p1, x.block < W.heap.size := DataW.trod_lt n1 _ _ _ hn1
  obtain ⟨a1, b1, w1, m1⟩ := (dec_IM enc W n1) _ _ hn1
  have o1 := (told_ok plain_all (fun _ => rfl) n1 52 _ _ rfl hn1).2
  have mm1 := Nat.le_trans m1 (bulk_le d1)
  rw [b1] at o1
  have g1 := rep_agg Tryz.underlying52 (hval 1 52 v1 rfl rfl) o1
  have k2 := h2
  obtain ⟨n2, hn2⟩ := h2
  have lt2 : ∀ x ∈ p2, x.block < W.heap.size := DataW.trod_lt n2 _ _ _ hn2
  obtain ⟨a2, b2, w2, m2⟩ := (dec_list (G := DecArgs.mk enc Tryz.prog W 0 (fun _ => true) true) (n := n2) (ec := Q.encU8) (sz := 1) Tryz.underlying22 (fun _ _ => (dec_int Tryz.underlying5)) (fun _ => (by first | rfl | kernel_rfl)) (by kernel_rfl)) _ _ hn2
  have o2 := (told_ok plain_all (fun _ => rfl) n2 22 _ _ rfl hn2).2
  have mm2 := Nat.le_trans m2 (bulk_le d2)
  simp only at mm2
  rw [b2] at o2
  have g2 := rep_cell Tryz.underlying22 (fun _ h => by cases h) (fun _ _ h => by cases h) (hval 2 22 v2 rfl rfl) o2
  have k3 := h3
  obtain ⟨n3, hn3⟩ := h3
  have lt3 : ∀ x ∈ p3, x.block < W.heap.size := DataW.trod_lt n3 _ _ _ hn3
  obtain ⟨a3, b3, w3, m3⟩ := (dec_list (G := DecArgs.mk enc Tryz.prog W 0 (fun _ => true) true) (n := n3) (ec := Q.encU8) (sz := 1) Tryz.underlying22 (fun _ _ => (dec_int Tryz.underlying5)) (fun _ => (by first | rfl | kernel_rfl)) (by kernel_rfl)) _ _ hn3
  have o3 := (told_ok plain_all (fun _ => rfl) n3 22 _ _ rfl hn3).2
  have mm3 := Nat.le_trans m3 (bulk_le d3)
  simp only at mm3
  rw [b3] at o3
  have g3 := rep_cell Tryz.underlying22 (fun _ h => by cases h) (fun _ _ h => by cases h) (hval 3 22 v3 rfl rfl) o3
  have hT := globs (tabs hL)
  clear hA0 hval0 hsz0 hsz
  refine (walk_law (P := Tryz.prog) noX (Q.back_of (g := a0) (v := a1) (x := a2) (y := a3) (H := []) w0 w1 w2 w3 (show Q.ms_RG a0 ≤ 1048576 by omega) (show sumL (fun a : Int => 1) a2.l ≤ 1048576 by omega) (show sumL (fun a : Int => 1) a3.l ≤ 1048576 by omega)) (imOf_ok W) (args_cons g0 rfl (args_cons g1 rfl (args_cons g2 strip_Z (args_cons g3 strip_Z args_nil)))) hT).mono fun e W' ⟨he, bel⟩ => ?_
  subst he
  exact ⟨_, rfl, _, _, _, [], _, [], hW', trodAll_mk1 (shut_bool Tryz.underlying4 _), (trodAll_cons_mk (Below.trod laidOut (by kernel_rfl) (of_decide_eq_true (by kernel_rfl)) k0 bel lt0) (trodAll_cons_mk (Below.trod laidOut (by kernel_rfl) (of_decide_eq_true (by kernel_rfl)) k1 bel lt1) (trodAll_cons_mk (Below.trod laidOut (by kernel_rfl) (of_decide_eq_true (by kernel_rfl)) k2 bel lt2) (trodAll_cons_mk (Below.trod laidOut (by kernel_rfl) (of_decide_eq_true (by kernel_rfl)) k3 bel lt3) trodAll_mk0)))), rfl, bel.frame _, fun h => by cases h⟩
theorem over : Rows.EntryBackUptoSaid :=
  OpenClaim.holds_of_cond 4 Tryz.f4 rfl rfl rfl rfl rfl rfl rfl ⟨rfl, rfl, rfl, rfl, rfl⟩ rfl rfl rfl rfl rfl (by kernel_rfl) Tryz.func4 (by kernel_rfl)
    (of_decide_eq_true (by kernel_rfl)) (by unfold Func.isWrapper; first | (rw [if_pos (by decide +kernel)]; kernel_rfl) | (rw [if_neg (by decide +kernel)]; exact ⟨rfl, rfl⟩))
    (fun os started H enc _ F => by rw [OpenClaim.pre_eq_preRow]; exact lifted os started H enc F)
theorem plain (f : FuncId) (fn : Func) (hf : Tryz.pinned.checked.prog.funcNamed "ratchet/ratchetlaw08.EntryBack" = some f) (hfn : Tryz.pinned.checked.prog.funcs[f]? = some fn) :
    true = Tryz.pinned.checked.prog.looks [] ∧ ∀ (j : Nat) t, fn.params[j]? = some t → Tryz.pinned.checked.prog.wantsStandIn t = false := by
  obtain rfl : f = 4 := Option.some.inj ((show Tryz.prog.funcNamed "ratchet/ratchetlaw08.EntryBack" = some 4 by kernel_rfl).symm.trans hf) |>.symm
  obtain rfl : fn = Tryz.f4 := (Option.some.inj (Tryz.func4.symm.trans hfn)).symm
  refine ⟨by kernel_rfl, fun j t ht => ?_⟩
  rw [Tryz.params4] at ht
  have hm : t ∈ [68, 52, 22, 22] := by simpa using Array.mem_of_getElem? ht
  have hall : ([68, 52, 22, 22].all fun u => !Tryz.prog.wantsStandIn u) = true := by kernel_rfl
  exact (show Tryz.prog.wantsStandIn t = false by simpa using List.all_eq_true.1 hall t hm)
theorem proved : Rows.EntryBackUptoCardSaid :=
  Claim7.holds_tied_plain_at .later [] _ _ _ _ over (fun _ h => by cases h) (by kernel_rfl) (fun _ h => by cases h) entryBackUpto_row_tie rfl ⟨rfl, rfl⟩ (by kernel_rfl) rfl plain (by kernel_rfl)
#print axioms proved
end Go.Proofs.YthnmienjiangkaaGreatDoor.entryBackUpto
namespace Go.Proofs.YthnmienjiangkaaGreatDoor
/-- The card, under a short name, for the claim. -/
theorem entryBackUpto_holds : Rows.EntryBackUptoCardSaid := entryBackUpto.proved
end Go.Proofs.YthnmienjiangkaaGreatDoor
