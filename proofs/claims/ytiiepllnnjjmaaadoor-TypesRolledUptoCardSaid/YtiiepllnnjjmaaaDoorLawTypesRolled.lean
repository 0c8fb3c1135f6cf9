/- The law TypesRolled: the Go function answers true for every input of bulk at most 1048576, and its arguments read afterwards as they read before (the statement Rows.TypesRolledUptoCardSaid). Conditions: the listed package variables hold what the program's text lays in them (the card ties that to the text); none beyond the statement's own. -/
import Derived.Test.YtiiepllnnjjmaaaDoorTie
import Derived.Test.YtiiepllnnjjmaaaDoorCards
import Derived.Test.YtiiepllnnjjmaaaDoorPiR3
import Derived.Test.YtiiepllnnjjmaaaDoorBulk
import Derived.WalkKit
import Derived.ProofKit
import Derived.OpenShut
import Derived.ShutString
import Derived.ChangeOld
import Derived.Below
import Derived.SizedLaws
import Derived.Lay
import Derived.Deep.DeepHandedRow
import Derived.Deep.DeepWitnessRowRef
import Derived.SevenTiedAt
import Derived.Stop.Joined
import Derived.LaidMore
namespace Go.Proofs.YtiiepllnnjjmaaaDoor.typesRolledUpto
open Go.ChangeShapes Go.WideShapes Go.ChangeAt Go.RowKit
open Go.ChangeMaps (open_string shut_string)
open Go.Proofs.YtiiepllnnjjmaaaDoor.Pi
set_option linter.unusedVariables false
theorem own : ownKnob Tryd.prog.godebug = none := by kernel_rfl
theorem laidOut : laidOutB Tryd.prog = true := by kernel_rfl
mutual
theorem bulk_le {H : Type} : ∀ d : DataW H, bulk d ≤ Rows.uptoBulk d
  | .lit l => by cases l <;> simp [bulk, Rows.uptoBulk]
  | .nil => by simp [bulk, Rows.uptoBulk]
  | .ptr d => by have := bulk_le d; simp only [bulk, Rows.uptoBulk]; omega
  | .slice elems spare => by have h1 := bulkL_le elems; have h2 := bulkL_le spare; simp only [bulk, Rows.uptoBulk]; omega
  | .agg parts => by have := bulkL_le parts; simp only [bulk, Rows.uptoBulk]; omega
  | .iface _ d => by simp [bulk, Rows.uptoBulk]
  | .map e => by simp [bulk, Rows.uptoBulk]
  | .held h => by simp [bulk, Rows.uptoBulk]
theorem bulkL_le {H : Type} : ∀ l : List (DataW H), bulkL l ≤ Rows.uptoBulkAll l
  | [] => by simp [bulkL, Rows.uptoBulkAll]
  | d :: r => by have h1 := bulk_le d; have h2 := bulkL_le r; simp only [bulkL, Rows.uptoBulkAll]; omega
end
set_option maxRecDepth 100000
theorem dec_V {H : Type} (enc : TypeId × Value → H) (W : World) (n : Nat) : Dec (DecArgs.mk enc Tryd.prog W 0 (fun _ => true) true) n 23 Q.cs_V Q.ok_V Q.ms_V :=
  Dec.map (dec_struct Tryd.underlying23 rfl (fun _ _ => (decF_cons (dec_int Tryd.underlying3) (decF_cons (dec_bool Tryd.underlying4) (decF_cons (dec_int Tryd.underlying3) decF_nil))))) (fun p => (⟨p.1, p.2.1, p.2.2.1⟩ : Q.VT)) (fun _ => rfl) (fun _ h => h) (fun _ => Nat.le_refl _)
theorem dec_F {H : Type} (enc : TypeId × Value → H) (W : World) (n : Nat) : Dec (DecArgs.mk enc Tryd.prog W 0 (fun _ => true) true) n 69 Q.cs_F Q.ok_F Q.ms_F :=
  Dec.map (dec_struct Tryd.underlying69 rfl (fun _ _ => (decF_cons (dec_V enc W _) (decF_cons (dec_bool Tryd.underlying4) decF_nil)))) (fun p => (⟨p.1, p.2.1⟩ : Q.FT)) (fun _ => rfl) (fun _ h => h) (fun _ => Nat.le_refl _)
theorem dec_CG {H : Type} (enc : TypeId × Value → H) (W : World) (n : Nat) : Dec (DecArgs.mk enc Tryd.prog W 0 (fun _ => true) true) n 39 Q.cs_CG Q.ok_CG Q.ms_CG :=
  Dec.map (dec_struct Tryd.underlying39 rfl (fun _ _ => (decF_cons (dec_int Tryd.underlying3) (decF_cons (dec_list (ec := Q.encV) (sz := 3) Tryd.underlying36 (fun _ _ => (dec_V enc W _)) (fun _ => (by first | rfl | kernel_rfl)) (by kernel_rfl)) (decF_cons (dec_list (ec := Q.encV) (sz := 3) Tryd.underlying36 (fun _ _ => (dec_V enc W _)) (fun _ => (by first | rfl | kernel_rfl)) (by kernel_rfl)) (decF_cons (dec_list (ec := Q.encF) (sz := 4) Tryd.underlying37 (fun _ _ => (dec_F enc W _)) (fun _ => (by first | rfl | kernel_rfl)) (by kernel_rfl)) decF_nil)))))) (fun p => (⟨p.1, p.2.1, p.2.2.1, p.2.2.2.1⟩ : Q.CG)) (fun _ => rfl) (fun _ h => h) (fun _ => Nat.le_refl _)
theorem dec_SG {H : Type} (enc : TypeId × Value → H) (W : World) (n : Nat) : Dec (DecArgs.mk enc Tryd.prog W 0 (fun _ => true) true) n 41 Q.cs_SG Q.ok_SG Q.ms_SG :=
  Dec.map (dec_struct Tryd.underlying41 rfl (fun _ _ => (decF_cons (dec_bool Tryd.underlying4) (decF_cons (dec_list (ec := Q.encI) (sz := 1) Tryd.underlying35 (fun _ _ => (dec_int Tryd.underlying3)) (fun _ => (by first | rfl | kernel_rfl)) (by kernel_rfl)) (decF_cons (dec_CG enc W _) decF_nil))))) (fun p => (⟨p.1, p.2.1, p.2.2.1⟩ : Q.SG)) (fun _ => rfl) (fun _ h => h) (fun _ => Nat.le_refl _)
theorem dec_RG {H : Type} (enc : TypeId × Value → H) (W : World) (n : Nat) : Dec (DecArgs.mk enc Tryd.prog W 0 (fun _ => true) true) n 26 Q.cs_RG Q.ok_RG Q.ms_RG :=
  Dec.map (dec_struct Tryd.underlying26 rfl (fun _ _ => (decF_cons (dec_list (ec := Q.encSG) (sz := 6) Tryd.underlying24 (fun _ _ => (dec_SG enc W _)) (fun _ => (by first | rfl | kernel_rfl)) (by kernel_rfl)) (decF_cons (dec_bool Tryd.underlying4) decF_nil)))) (fun p => (⟨p.1, p.2.1⟩ : Q.RG)) (fun _ => rfl) (fun _ h => h) (fun _ => Nat.le_refl _)
theorem plain_all : ([4, 3, 35, 23, 36, 69, 37, 39, 41, 24, 26, 34, 5] : List TypeId).all (plainT Tryd.prog [4, 3, 35, 23, 36, 69, 37, 39, 41, 24, 26, 34, 5]) = true := by kernel_rfl
theorem met (os : Os) : laidMetH Tryd.prog Rows.typesRolledUptoRow.laid ((World.laidAll Tryd.prog os Rows.typesRolledUptoRow.laid).forCall (fun _ _ => 0) ⟨#[], #[.slice none 0 0, .int .i64 0, .int .u8 0], []⟩).memory := by
  rw [MakeChecks.laidMetH_plain _ _ _ (by kernel_rfl)]
  exact laidMet_laidAll _ (by kernel_rfl) (by kernel_rfl)
set_option maxRecDepth 100000 in
theorem reads (os : Os) {H : Type} (enc : TypeId × Value → H) : ∃ places, DataW.whole enc Tryd.prog ((World.laidAll Tryd.prog os Rows.typesRolledUptoRow.laid).forCall (fun _ _ => 0) ⟨#[], #[.slice none 0 0, .int .i64 0, .int .u8 0], []⟩).memory Tryd.f5.params.toList Rows.typesRolledSpec.vars false (#[.slice none 0 0, .int .i64 0, .int .u8 0] : Array Value).toList 8 = some ([.nil, .lit (.int .i64 0), .lit (.int .u8 0)], [], places) :=
  ⟨[], by kernel_rfl⟩
set_option maxRecDepth 100000 in
theorem lifted (os : Os) (started : os.Started) (H : Type) (enc : TypeId × Value → H) (F : Stop.Interp) :
    ReturnsInHanded {} Tryd.checked os 5 .any ((Rows.OpenSpec.upto Rows.typesRolledSpec).preRow enc Tryd.prog Tryd.f5 Rows.typesRolledUptoRow.domain false Rows.typesRolledUptoRow.laid) (((Rows.OpenSpec.upto Rows.typesRolledSpec).at F).post enc Tryd.prog Tryd.f5 false true false false) := by
  obtain ⟨places, hx⟩ := reads os enc
  refine returnsInHanded_of_row (C := Tryd.checked) (s := (Rows.OpenSpec.upto Rows.typesRolledSpec)) own started (by kernel_rfl) Tryd.func5
    (witness_row_atRef (enc := enc) (C := Tryd.checked) false (World.laidAll Tryd.prog os Rows.typesRolledUptoRow.laid) #[.slice none 0 0, .int .i64 0, .int .u8 0] (World.laidAll_os _ _ _) (by kernel_rfl) (by kernel_rfl) (by kernel_rfl)
      (OpenSpec.preRow_of_cond 8 hx (by kernel_rfl) (fun k hk => by cases hk; kernel_rfl) (by kernel_rfl) (met os))) ?_
  intro W base args ds gs before hval0 hW _ hcond hsz0 hL _ _
  have hsz : (DataW.weightsEach Tryd.prog (Tryd.f5.params.toList ++ (Rows.OpenSpec.upto Rows.typesRolledSpec).bare.plain.varTypes Tryd.prog) (ds ++ gs)).all (· ≤ reachBytes) = true := hsz0
  have hk := hcond _ rfl
  have hval : ∀ (j : Nat) t v, Tryd.f5.params[j]? = some t → args[j]? = some v → Value.okWide Tryd.prog W .any base t v := hval0
  have hW' := hW
  obtain ⟨p, q, hA0, hV, rfl, hfz, hnd⟩ := hW
  have hA : DataW.TrodAll enc Tryd.prog W 0 (fun _ => true) true Tryd.f5.params.toList args.toList ds p := hA0
  rw [Tryd.params5] at hA hval hsz
  obtain ⟨v0, vs0, d0, ds0, p0, q0, hargs, rfl, rfl, h0, r0⟩ := trodAll_cons hA
  obtain ⟨v1, vs1, d1, ds1, p1, q1, rfl, rfl, rfl, h1, r1⟩ := trodAll_cons r0
  obtain ⟨v2, vs2, d2, ds2, p2, q2, rfl, rfl, rfl, h2, r2⟩ := trodAll_cons r1
  obtain ⟨rfl, rfl, rfl⟩ := trodAll_nil r2
  obtain rfl : args = #[v0, v1, v2] := by cases args; simp_all
  obtain ⟨rfl, rfl⟩ := trodVars_none hV
  have hb := bulks.bound hk
  simp only [List.append_nil, Rows.uptoBulkAll] at hb
  have k0 := h0
  obtain ⟨n0, hn0⟩ := h0
  have lt0 : ∀ x ∈ p0, x.block < W.heap.size := DataW.trod_lt n0 _ _ _ hn0
  obtain ⟨a0, b0, w0, m0⟩ := (dec_list (G := DecArgs.mk enc Tryd.prog W 0 (fun _ => true) true) (n := n0) (ec := Q.encRG) (sz := 2) Tryd.underlying34 (fun _ _ => (dec_RG enc W _)) (fun _ => (by first | rfl | kernel_rfl)) (by kernel_rfl)) _ _ hn0
  have o0 := (told_ok plain_all (fun _ => rfl) n0 34 _ _ rfl hn0).2
  have mm0 := Nat.le_trans m0 (bulk_le d0)
  simp only at mm0
  rw [b0] at o0
  have g0 := rep_cell Tryd.underlying34 (fun _ h => by cases h) (fun _ _ h => by cases h) (hval 0 34 v0 rfl rfl) o0
  obtain ⟨a1, rfl, rfl, rfl, w1⟩ := open_int Tryd.underlying3 (hval 1 3 v1 rfl rfl) h1
  have k2 := h2
  obtain ⟨n2, hn2⟩ := h2
  have lt2 : ∀ x ∈ p2, x.block < W.heap.size := DataW.trod_lt n2 _ _ _ hn2
  obtain ⟨a2, b2, w2, m2⟩ := (dec_int (G := DecArgs.mk enc Tryd.prog W 0 (fun _ => true) true) (n := n2) Tryd.underlying5) _ _ hn2
  have o2 := (told_ok plain_all (fun _ => rfl) n2 5 _ _ rfl hn2).2
  have mm2 := Nat.le_trans m2 (bulk_le d2)
  rw [b2] at o2
  have g2 := rep_cell Tryd.underlying5 (fun _ h => by cases h) (fun _ _ h => by cases h) (hval 2 5 v2 rfl rfl) o2
  have hT : GlobOk (imOf W) := fun _ => .inl rfl
  clear hA0 hval0 hsz0 hsz
  refine (walk_law (P := Tryd.prog) noX (Q.rolled_of (l := a0) (g := a1) (o := a2) (H := []) w1 (Q.wfU8 w2) (show sumL Q.ms_RG a0.l ≤ 1048576 by omega)) (imOf_ok W) (args_cons g0 strip_Z (args_cons (.flat (.int _ _)) rfl (args_cons g2 rfl args_nil))) hT).mono fun e W' ⟨he, bel⟩ => ?_
  subst he
  exact ⟨_, rfl, _, _, _, [], _, [], hW', trodAll_mk1 (shut_bool Tryd.underlying4 _), (trodAll_cons_mk (Below.trod laidOut (by kernel_rfl) (of_decide_eq_true (by kernel_rfl)) k0 bel lt0) (trodAll_cons_mk (shut_int Tryd.underlying3 w1) (trodAll_cons_mk (Below.trod laidOut (by kernel_rfl) (of_decide_eq_true (by kernel_rfl)) k2 bel lt2) trodAll_mk0))), rfl, bel.frame _, fun h => by cases h⟩
theorem over : Rows.TypesRolledUptoSaid :=
  OpenClaim.holds_of_cond 5 Tryd.f5 rfl rfl rfl rfl rfl rfl rfl ⟨rfl, rfl, rfl, rfl, rfl⟩ rfl rfl rfl rfl rfl (by kernel_rfl) Tryd.func5 (by kernel_rfl)
    (of_decide_eq_true (by kernel_rfl)) (by unfold Func.isWrapper; first | (rw [if_pos (by decide +kernel)]; kernel_rfl) | (rw [if_neg (by decide +kernel)]; exact ⟨rfl, rfl⟩))
    (fun os started H enc _ F => by rw [OpenClaim.pre_eq_preRow]; exact lifted os started H enc F)
theorem plain (f : FuncId) (fn : Func) (hf : Tryd.pinned.checked.prog.funcNamed "ratchet/ratchetlaw05.TypesRolled" = some f) (hfn : Tryd.pinned.checked.prog.funcs[f]? = some fn) :
    false = Tryd.pinned.checked.prog.looks [] ∧ ∀ (j : Nat) t, fn.params[j]? = some t → Tryd.pinned.checked.prog.wantsStandIn t = false := by
  obtain rfl : f = 5 := Option.some.inj ((show Tryd.prog.funcNamed "ratchet/ratchetlaw05.TypesRolled" = some 5 by kernel_rfl).symm.trans hf) |>.symm
  obtain rfl : fn = Tryd.f5 := (Option.some.inj (Tryd.func5.symm.trans hfn)).symm
  refine ⟨by kernel_rfl, fun j t ht => ?_⟩
  rw [Tryd.params5] at ht
  have hm : t ∈ [34, 3, 5] := by simpa using Array.mem_of_getElem? ht
  have hall : ([34, 3, 5].all fun u => !Tryd.prog.wantsStandIn u) = true := by kernel_rfl
  exact (show Tryd.prog.wantsStandIn t = false by simpa using List.all_eq_true.1 hall t hm)
theorem proved : Rows.TypesRolledUptoCardSaid :=
  Claim7.holds_tied_plain_at .later [] _ _ _ _ over (fun _ h => by cases h) (by kernel_rfl) (fun _ h => by cases h) typesRolledUpto_row_tie rfl ⟨rfl, rfl⟩ (by kernel_rfl) rfl plain (by kernel_rfl)
#print axioms proved
end Go.Proofs.YtiiepllnnjjmaaaDoor.typesRolledUpto
namespace Go.Proofs.YtiiepllnnjjmaaaDoor
/-- The card, under a short name, for the claim. -/
theorem typesRolledUpto_holds : Rows.TypesRolledUptoCardSaid := typesRolledUpto.proved
end Go.Proofs.YtiiepllnnjjmaaaDoor
