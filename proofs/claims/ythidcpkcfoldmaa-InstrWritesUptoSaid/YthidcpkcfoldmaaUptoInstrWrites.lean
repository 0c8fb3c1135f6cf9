/- The law InstrWrites: the Go function answers true for every input of bulk at most 1048576, and its arguments read afterwards as they read before (the statement Rows.InstrWritesUptoSaid). Conditions: none beyond the statement's own. -/
import Derived.Test.YthidcpkcfoldmaaRows
import Derived.Test.YthidcpkcfoldmaaPiW5
import Derived.Test.YthidcpkcfoldmaaBulk
import Derived.Deep.CondSized
import Derived.WalkKit
import Derived.ProofKit
import Derived.OpenShut
import Derived.ShutString
import Derived.ChangeOld
import Derived.Below
import Derived.SizedLaws
namespace Go.Proofs.Ythidcpkcfoldmaa.instrWritesUpto
open Go.ChangeShapes Go.WideShapes Go.ChangeAt Go.RowKit
open Go.ChangeMaps (open_string shut_string)
open Go.Proofs.Ythidcpkcfoldmaa.Pi
set_option linter.unusedVariables false
theorem own : ownKnob Try.prog.godebug = none := by kernel_rfl
theorem laidOut : laidOutB Try.prog = true := by kernel_rfl
mutual
theorem bulk_le {H : Type} : ∀ d : DataW H, bulk d ≤ Rows.uptoBulk d
  | .lit l => by cases l <;> simp [bulk, Rows.uptoBulk]
  | .nil => by simp [bulk, Rows.uptoBulk]
  | .ptr d => by have := bulk_le d; simp only [bulk, Rows.uptoBulk]; omega
  | .slice elems spare => by have h1 := bulkL_le elems; have h2 := bulkL_le spare; simp only [bulk, Rows.uptoBulk]; omega
  | .agg parts => by have := bulkL_le parts; simp only [bulk, Rows.uptoBulk]; omega
  | .iface _ d => by simp [bulk, Rows.uptoBulk]
  | .map e => by simp [bulk, Rows.uptoBulk]
  | .held h => by simp [bulk, Rows.uptoBulk]
theorem bulkL_le {H : Type} : ∀ l : List (DataW H), bulkL l ≤ Rows.uptoBulkAll l
  | [] => by simp [bulkL, Rows.uptoBulkAll]
  | d :: r => by have h1 := bulk_le d; have h2 := bulkL_le r; simp only [bulkL, Rows.uptoBulkAll]; omega
end
set_option maxRecDepth 100000
theorem dec_MG {H : Type} (enc : TypeId × Value → H) (W : World) (n : Nat) : Dec (DecArgs.mk enc Try.prog W 0 (fun _ => true) true) n 35 Q.cs_MG Q.ok_MG Q.ms_MG :=
  Dec.map (dec_struct Try.underlying35 rfl (fun _ _ => (decF_cons (dec_int Try.underlying32) (decF_cons (dec_int Try.underlying32) (decF_cons (dec_int Try.underlying33) decF_nil))))) (fun p => (⟨p.1, p.2.1, p.2.2.1⟩ : Q.MG)) (fun _ => rfl) (fun _ h => h) (fun _ => Nat.le_refl _)
theorem dec_V {H : Type} (enc : TypeId × Value → H) (W : World) (n : Nat) : Dec (DecArgs.mk enc Try.prog W 0 (fun _ => true) true) n 37 Q.cs_V Q.ok_V Q.ms_V :=
  Dec.map (dec_struct Try.underlying37 rfl (fun _ _ => (decF_cons (dec_int Try.underlying3) (decF_cons (dec_bool Try.underlying4) (decF_cons (dec_int Try.underlying3) decF_nil))))) (fun p => (⟨p.1, p.2.1, p.2.2.1⟩ : Q.VT)) (fun _ => rfl) (fun _ h => h) (fun _ => Nat.le_refl _)
theorem dec_B {H : Type} (enc : TypeId × Value → H) (W : World) (n : Nat) : Dec (DecArgs.mk enc Try.prog W 0 (fun _ => true) true) n 39 Q.cs_B Q.ok_B Q.ms_B :=
  Dec.map (dec_struct Try.underlying39 rfl (fun _ _ => (decF_cons (dec_int Try.underlying3) (decF_cons (dec_V enc W _) decF_nil)))) (fun p => (⟨p.1, p.2.1⟩ : Q.BK)) (fun _ => rfl) (fun _ h => h) (fun _ => Nat.le_refl _)
theorem dec_CH {H : Type} (enc : TypeId × Value → H) (W : World) (n : Nat) : Dec (DecArgs.mk enc Try.prog W 0 (fun _ => true) true) n 102 Q.cs_CH Q.ok_CH Q.ms_CH :=
  Dec.map (dec_struct Try.underlying102 rfl (fun _ _ => (decF_cons (dec_int Try.underlying3) (decF_cons (dec_int Try.underlying32) (decF_cons (dec_int Try.underlying32) decF_nil))))) (fun p => (⟨p.1, p.2.1, p.2.2.1⟩ : Q.CH)) (fun _ => rfl) (fun _ h => h) (fun _ => Nat.le_refl _)
theorem dec_IG {H : Type} (enc : TypeId × Value → H) (W : World) (n : Nat) : Dec (DecArgs.mk enc Try.prog W 0 (fun _ => true) true) n 45 Q.cs_IG Q.ok_IG Q.ms_IG :=
  Dec.map (dec_struct Try.underlying45 rfl (fun _ _ => (decF_cons (dec_int Try.underlying3) (decF_cons (dec_int Try.underlying32) (decF_cons (dec_int Try.underlying32) (decF_cons (dec_int Try.underlying33) (decF_cons (dec_MG enc W _) (decF_cons (dec_B enc W _) (decF_cons (dec_any Try.underlying40) (decF_cons (dec_any Try.underlying40) (decF_cons (dec_bool Try.underlying4) (decF_cons (dec_list (ec := Q.encU32) (sz := 1) Try.underlying41 (fun _ _ => (dec_int Try.underlying32)) (fun _ => (by first | rfl | kernel_rfl)) (by kernel_rfl)) (decF_cons (dec_list (ec := Q.encV) (sz := 3) Try.underlying42 (fun _ _ => (dec_V enc W _)) (fun _ => (by first | rfl | kernel_rfl)) (by kernel_rfl)) (decF_cons (dec_list (ec := Q.encCH) (sz := 3) Try.underlying43 (fun _ _ => (dec_CH enc W _)) (fun _ => (by first | rfl | kernel_rfl)) (by kernel_rfl)) decF_nil)))))))))))))) (fun p => (⟨p.1, p.2.1, p.2.2.1, p.2.2.2.1, p.2.2.2.2.1, p.2.2.2.2.2.1, p.2.2.2.2.2.2.1, p.2.2.2.2.2.2.2.1, p.2.2.2.2.2.2.2.2.1, p.2.2.2.2.2.2.2.2.2.1, p.2.2.2.2.2.2.2.2.2.2.1, p.2.2.2.2.2.2.2.2.2.2.2.1⟩ : Q.IG)) (fun _ => rfl) (fun _ h => h) (fun _ => Nat.le_refl _)
theorem plain_all : ([3, 32, 33, 35, 4, 37, 39, 40, 41, 42, 102, 43, 45] : List TypeId).all (plainT Try.prog [3, 32, 33, 35, 4, 37, 39, 40, 41, 42, 102, 43, 45]) = true := by kernel_rfl
set_option maxRecDepth 100000 in
theorem lifted (os : Os) (started : os.Started) (H : Type) (enc : TypeId × Value → H) (F : Stop.Interp) :
    ReturnsInHanded {} Try.checked os 5 .any ((Rows.OpenSpec.upto Rows.instrWritesSpec).pre6 enc Try.prog Try.f5 Rows.instrWritesUptoRow.domain false) (((Rows.OpenSpec.upto Rows.instrWritesSpec).at F).post enc Try.prog Try.f5 false true false false) := by
  refine returnsInHanded_of_cond_sized (C := Try.checked) (s := Rows.OpenSpec.upto Rows.instrWritesSpec) (k := Rows.uptoSmall) rfl own started (by kernel_rfl) Try.func5
    (OpenSpec.witness (enc := enc) (C := Try.checked) (s := Rows.OpenSpec.upto Rows.instrWritesSpec) (k := Rows.uptoSmall) rfl false ⟨#[], #[.agg #[.int .i64 0, .int .u32 0, .int .u32 0, .int .u64 0, .int .u32 0, .int .u32 0, .int .u64 0, .int .i64 0, .int .i64 0, .bool false, .int .i64 0, .slice none 0 0, .slice none 0 0, .bool false, .slice none 0 0, .slice none 0 0, .slice none 0 0]], []⟩ 8 (by kernel_rfl) (by kernel_rfl) (by kernel_rfl)
      (x := ([.agg [.lit (.int .i64 0), .lit (.int .u32 0), .lit (.int .u32 0), .lit (.int .u64 0), .agg [.lit (.int .u32 0), .lit (.int .u32 0), .lit (.int .u64 0)], .agg [.lit (.int .i64 0), .agg [.lit (.int .i64 0), .lit (.bool false), .lit (.int .i64 0)]], .nil, .nil, .lit (.bool false), .nil, .nil, .nil]], [], [])) (by kernel_rfl) rfl (by kernel_rfl)) ?_
  intro W base args ds gs before hval0 hW hcnd hk hsz0 _
  have hsz : (DataW.weightsEach Try.prog (Try.f5.params.toList ++ (Rows.OpenSpec.upto Rows.instrWritesSpec).bare.plain.varTypes Try.prog) (ds ++ gs)).all (· ≤ reachBytes) = true := hsz0
  have hval : ∀ (j : Nat) t v, Try.f5.params[j]? = some t → args[j]? = some v → Value.okWide Try.prog W .any base t v := hval0
  have hW' := hW
  obtain ⟨p, q, hA0, hV, rfl, hfz, hnd⟩ := hW
  have hA : DataW.TrodAll enc Try.prog W 0 (fun _ => true) true Try.f5.params.toList args.toList ds p := hA0
  rw [Try.params5] at hA hval hsz
  obtain ⟨v0, vs0, d0, ds0, p0, q0, hargs, rfl, rfl, h0, r0⟩ := trodAll_cons hA
  obtain ⟨rfl, rfl, rfl⟩ := trodAll_nil r0
  obtain rfl : args = #[v0] := by cases args; simp_all
  obtain ⟨rfl, rfl⟩ := trodVars_none hV
  have hb := bulks.bound hk
  simp only [List.append_nil, Rows.uptoBulkAll] at hb
  have k0 := h0
  obtain ⟨n0, hn0⟩ := h0
  have lt0 : ∀ x ∈ p0, x.block < W.heap.size := DataW.trod_lt n0 _ _ _ hn0
  obtain ⟨a0, b0, w0, m0⟩ := (dec_IG enc W n0) _ _ hn0
  have o0 := (told_ok plain_all (fun _ => rfl) n0 45 _ _ rfl hn0).2
  have mm0 := Nat.le_trans m0 (bulk_le d0)
  rw [b0] at o0
  have g0 := rep_agg Try.underlying45 (hval 0 45 v0 rfl rfl) o0
  clear hA0 hval0 hsz0 hsz
  refine (walk_law (P := Try.prog) noX (Q.iwrites_of w0 (by omega) (H := [])) (imOf_ok W) (args_cons g0 rfl args_nil)).mono fun e W' ⟨he, bel⟩ => ?_
  subst he
  exact ⟨_, rfl, _, _, _, [], _, [], hW', trodAll_mk1 (shut_bool Try.underlying4 _), (trodAll_cons_mk (Below.trod laidOut (by kernel_rfl) (of_decide_eq_true (by kernel_rfl)) k0 bel lt0) trodAll_mk0), rfl, bel.frame _, fun h => by cases h⟩
theorem over : Rows.instrWritesUptoRow.holds Try.pinned (Rows.OpenSpec.upto Rows.instrWritesSpec) :=
  OpenClaim.holds_of_cond 5 Try.f5 rfl rfl rfl rfl rfl rfl rfl ⟨rfl, rfl, rfl, rfl, rfl⟩ rfl rfl rfl rfl rfl (by kernel_rfl) Try.func5 (by kernel_rfl)
    (of_decide_eq_true (by kernel_rfl)) (by unfold Func.isWrapper; first | (rw [if_pos (by decide +kernel)]; kernel_rfl) | (rw [if_neg (by decide +kernel)]; exact ⟨rfl, rfl⟩))
    (fun os started H enc _ F => lifted os started H enc F)
theorem proved : Rows.InstrWritesUptoSaid := over
#print axioms proved
end Go.Proofs.Ythidcpkcfoldmaa.instrWritesUpto
namespace Go.Proofs.Ythidcpkcfoldmaa
/-- The row, under a short name, for the claim. -/
theorem instrWritesUpto_holds : Rows.InstrWritesUptoSaid := instrWritesUpto.proved
end Go.Proofs.Ythidcpkcfoldmaa
