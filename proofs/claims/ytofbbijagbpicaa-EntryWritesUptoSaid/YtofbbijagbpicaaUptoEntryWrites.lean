/- The law EntryWrites: the Go function answers true for every input of bulk at most 1048576, and its arguments read afterwards as they read before (the statement Rows.EntryWritesUptoSaid). Conditions: none beyond the statement's own. -/
import Derived.Test.YtofbbijagbpicaaRows
import Derived.Test.YtofbbijagbpicaaWr3
import Derived.Test.YtofbbijagbpicaaBulk
import Derived.Deep.CondSized
import Derived.WalkKit
import Derived.ProofKit
import Derived.OpenShut
import Derived.ShutString
import Derived.ChangeOld
import Derived.Below
import Derived.SizedLaws
namespace Go.Proofs.Ytofbbijagbpicaa.entryWritesUpto
open Go.ChangeShapes Go.WideShapes Go.ChangeAt Go.RowKit
open Go.ChangeMaps (open_string shut_string)
open Go.Proofs.Ytofbbijagbpicaa.Pi
set_option linter.unusedVariables false
theorem own : ownKnob Try.prog.godebug = none := by kernel_rfl
theorem laidOut : laidOutB Try.prog = true := by kernel_rfl
mutual
theorem bulk_le {H : Type} : ∀ d : DataW H, bulk d ≤ Rows.uptoBulk d
  | .lit l => by cases l <;> simp [bulk, Rows.uptoBulk]
  | .nil => by simp [bulk, Rows.uptoBulk]
  | .ptr d => by have := bulk_le d; simp only [bulk, Rows.uptoBulk]; omega
  | .slice elems spare => by have h1 := bulkL_le elems; have h2 := bulkL_le spare; simp only [bulk, Rows.uptoBulk]; omega
  | .agg parts => by have := bulkL_le parts; simp only [bulk, Rows.uptoBulk]; omega
  | .iface _ d => by simp [bulk, Rows.uptoBulk]
  | .map e => by simp [bulk, Rows.uptoBulk]
  | .held h => by simp [bulk, Rows.uptoBulk]
theorem bulkL_le {H : Type} : ∀ l : List (DataW H), bulkL l ≤ Rows.uptoBulkAll l
  | [] => by simp [bulkL, Rows.uptoBulkAll]
  | d :: r => by have h1 := bulk_le d; have h2 := bulkL_le r; simp only [bulkL, Rows.uptoBulkAll]; omega
end
set_option maxRecDepth 100000
theorem dec_V {H : Type} (enc : TypeId × Value → H) (W : World) (n : Nat) : Dec (DecArgs.mk enc Try.prog W 0 (fun _ => true) true) n 23 Q.cs_V Q.ok_V Q.ms_V :=
  Dec.map (dec_struct Try.underlying23 rfl (fun _ _ => (decF_cons (dec_int Try.underlying3) (decF_cons (dec_bool Try.underlying4) (decF_cons (dec_int Try.underlying3) decF_nil))))) (fun p => (⟨p.1, p.2.1, p.2.2.1⟩ : Q.VT)) (fun _ => rfl) (fun _ h => h) (fun _ => Nat.le_refl _)
theorem dec_B {H : Type} (enc : TypeId × Value → H) (W : World) (n : Nat) : Dec (DecArgs.mk enc Try.prog W 0 (fun _ => true) true) n 25 Q.cs_B Q.ok_B Q.ms_B :=
  Dec.map (dec_struct Try.underlying25 rfl (fun _ _ => (decF_cons (dec_int Try.underlying3) (decF_cons (dec_V enc W _) decF_nil)))) (fun p => (⟨p.1, p.2.1⟩ : Q.BK)) (fun _ => rfl) (fun _ h => h) (fun _ => Nat.le_refl _)
theorem dec_F {H : Type} (enc : TypeId × Value → H) (W : World) (n : Nat) : Dec (DecArgs.mk enc Try.prog W 0 (fun _ => true) true) n 68 Q.cs_F Q.ok_F Q.ms_F :=
  Dec.map (dec_struct Try.underlying68 rfl (fun _ _ => (decF_cons (dec_V enc W _) (decF_cons (dec_bool Try.underlying4) decF_nil)))) (fun p => (⟨p.1, p.2.1⟩ : Q.FT)) (fun _ => rfl) (fun _ h => h) (fun _ => Nat.le_refl _)
theorem dec_CG {H : Type} (enc : TypeId × Value → H) (W : World) (n : Nat) : Dec (DecArgs.mk enc Try.prog W 0 (fun _ => true) true) n 75 Q.cs_CG Q.ok_CG Q.ms_CG :=
  Dec.map (dec_struct Try.underlying75 rfl (fun _ _ => (decF_cons (dec_int Try.underlying3) (decF_cons (dec_list (ec := Q.encV) (sz := 3) Try.underlying61 (fun _ _ => (dec_V enc W _)) (fun _ => (by first | rfl | kernel_rfl)) (by kernel_rfl)) (decF_cons (dec_list (ec := Q.encV) (sz := 3) Try.underlying61 (fun _ _ => (dec_V enc W _)) (fun _ => (by first | rfl | kernel_rfl)) (by kernel_rfl)) (decF_cons (dec_list (ec := Q.encF) (sz := 4) Try.underlying73 (fun _ _ => (dec_F enc W _)) (fun _ => (by first | rfl | kernel_rfl)) (by kernel_rfl)) decF_nil)))))) (fun p => (⟨p.1, p.2.1, p.2.2.1, p.2.2.2.1⟩ : Q.CG)) (fun _ => rfl) (fun _ h => h) (fun _ => Nat.le_refl _)
theorem dec_SG {H : Type} (enc : TypeId × Value → H) (W : World) (n : Nat) : Dec (DecArgs.mk enc Try.prog W 0 (fun _ => true) true) n 83 Q.cs_SG Q.ok_SG Q.ms_SG :=
  Dec.map (dec_struct Try.underlying83 rfl (fun _ _ => (decF_cons (dec_bool Try.underlying4) (decF_cons (dec_list (ec := Q.encI) (sz := 1) Try.underlying81 (fun _ _ => (dec_int Try.underlying3)) (fun _ => (by first | rfl | kernel_rfl)) (by kernel_rfl)) (decF_cons (dec_CG enc W _) decF_nil))))) (fun p => (⟨p.1, p.2.1, p.2.2.1⟩ : Q.SG)) (fun _ => rfl) (fun _ h => h) (fun _ => Nat.le_refl _)
theorem dec_RG {H : Type} (enc : TypeId × Value → H) (W : World) (n : Nat) : Dec (DecArgs.mk enc Try.prog W 0 (fun _ => true) true) n 28 Q.cs_RG Q.ok_RG Q.ms_RG :=
  Dec.map (dec_struct Try.underlying28 rfl (fun _ _ => (decF_cons (dec_list (ec := Q.encSG) (sz := 6) Try.underlying26 (fun _ _ => (dec_SG enc W _)) (fun _ => (by first | rfl | kernel_rfl)) (by kernel_rfl)) (decF_cons (dec_bool Try.underlying4) decF_nil)))) (fun p => (⟨p.1, p.2.1⟩ : Q.RG)) (fun _ => rfl) (fun _ h => h) (fun _ => Nat.le_refl _)
theorem dec_LT {H : Type} (enc : TypeId × Value → H) (W : World) (n : Nat) : Dec (DecArgs.mk enc Try.prog W 0 (fun _ => true) true) n 31 Q.cs_LT Q.ok_LT Q.ms_LT :=
  Dec.map (dec_struct Try.underlying31 rfl (fun _ _ => (decF_cons (dec_bool Try.underlying4) (decF_cons (dec_int Try.underlying29) (decF_cons (dec_int Try.underlying29) (decF_cons (dec_bool Try.underlying4) decF_nil)))))) (fun p => (⟨p.1, p.2.1, p.2.2.1, p.2.2.2.1⟩ : Q.LT)) (fun _ => rfl) (fun _ h => h) (fun _ => Nat.le_refl _)
theorem plain_all : ([3, 4, 23, 25, 81, 61, 68, 73, 75, 83, 26, 28, 29, 31] : List TypeId).all (plainT Try.prog [3, 4, 23, 25, 81, 61, 68, 73, 75, 83, 26, 28, 29, 31]) = true := by kernel_rfl
set_option maxRecDepth 100000 in
theorem lifted (os : Os) (started : os.Started) (H : Type) (enc : TypeId × Value → H) (F : Stop.Interp) :
    ReturnsInHanded {} Try.checked os 3 .any ((Rows.OpenSpec.upto Rows.entryWritesSpec).pre6 enc Try.prog Try.f3 Rows.entryWritesUptoRow.domain false) (((Rows.OpenSpec.upto Rows.entryWritesSpec).at F).post enc Try.prog Try.f3 false true false false) := by
  refine returnsInHanded_of_cond_sized (C := Try.checked) (s := Rows.OpenSpec.upto Rows.entryWritesSpec) (k := Rows.uptoSmall) rfl own started (by kernel_rfl) Try.func3
    (OpenSpec.witness (enc := enc) (C := Try.checked) (s := Rows.OpenSpec.upto Rows.entryWritesSpec) (k := Rows.uptoSmall) rfl false ⟨#[], #[.agg #[.int .i64 0, .bool false, .int .i64 0], .agg #[.int .i64 0, .int .i64 0, .bool false, .int .i64 0], .agg #[.slice none 0 0, .bool false], .agg #[.bool false, .int .u64 0, .int .u64 0, .bool false], .int .i64 0], []⟩ 8 (by kernel_rfl) (by kernel_rfl) (by kernel_rfl)
      (x := ([.agg [.lit (.int .i64 0), .lit (.bool false), .lit (.int .i64 0)], .agg [.lit (.int .i64 0), .agg [.lit (.int .i64 0), .lit (.bool false), .lit (.int .i64 0)]], .agg [.nil, .lit (.bool false)], .agg [.lit (.bool false), .lit (.int .u64 0), .lit (.int .u64 0), .lit (.bool false)], .lit (.int .i64 0)], [], [])) (by kernel_rfl) rfl (by kernel_rfl)) ?_
  intro W base args ds gs before hval0 hW hcnd hk hsz0 _
  have hsz : (DataW.weightsEach Try.prog (Try.f3.params.toList ++ (Rows.OpenSpec.upto Rows.entryWritesSpec).bare.plain.varTypes Try.prog) (ds ++ gs)).all (· ≤ reachBytes) = true := hsz0
  have hval : ∀ (j : Nat) t v, Try.f3.params[j]? = some t → args[j]? = some v → Value.okWide Try.prog W .any base t v := hval0
  have hW' := hW
  obtain ⟨p, q, hA0, hV, rfl, hfz, hnd⟩ := hW
  have hA : DataW.TrodAll enc Try.prog W 0 (fun _ => true) true Try.f3.params.toList args.toList ds p := hA0
  rw [Try.params3] at hA hval hsz
  obtain ⟨v0, vs0, d0, ds0, p0, q0, hargs, rfl, rfl, h0, r0⟩ := trodAll_cons hA
  obtain ⟨v1, vs1, d1, ds1, p1, q1, rfl, rfl, rfl, h1, r1⟩ := trodAll_cons r0
  obtain ⟨v2, vs2, d2, ds2, p2, q2, rfl, rfl, rfl, h2, r2⟩ := trodAll_cons r1
  obtain ⟨v3, vs3, d3, ds3, p3, q3, rfl, rfl, rfl, h3, r3⟩ := trodAll_cons r2
  obtain ⟨v4, vs4, d4, ds4, p4, q4, rfl, rfl, rfl, h4, r4⟩ := trodAll_cons r3
  obtain ⟨rfl, rfl, rfl⟩ := trodAll_nil r4
  obtain rfl : args = #[v0, v1, v2, v3, v4] := by cases args; simp_all
  obtain ⟨rfl, rfl⟩ := trodVars_none hV
  have hb := bulks.bound hk
  simp only [List.append_nil, Rows.uptoBulkAll] at hb
  have k0 := h0
  obtain ⟨n0, hn0⟩ := h0
  have lt0 : ∀ x ∈ p0, x.block < W.heap.size := DataW.trod_lt n0 _ _ _ hn0
  obtain ⟨a0, b0, w0, m0⟩ := (dec_V enc W n0) _ _ hn0
  have o0 := (told_ok plain_all (fun _ => rfl) n0 23 _ _ rfl hn0).2
  have mm0 := Nat.le_trans m0 (bulk_le d0)
  rw [b0] at o0
  have g0 := rep_agg Try.underlying23 (hval 0 23 v0 rfl rfl) o0
  have k1 := h1
  obtain ⟨n1, hn1⟩ := h1
  have lt1 : ∀ x ∈ p1, x.block < W.heap.size := DataW.trod_lt n1 _ _ _ hn1
  obtain ⟨a1, b1, w1, m1⟩ := (dec_B enc W n1) _ _ hn1
  have o1 := (told_ok plain_all (fun _ => rfl) n1 25 _ _ rfl hn1).2
  have mm1 := Nat.le_trans m1 (bulk_le d1)
  rw [b1] at o1
  have g1 := rep_agg Try.underlying25 (hval 1 25 v1 rfl rfl) o1
  have k2 := h2
  obtain ⟨n2, hn2⟩ := h2
  have lt2 : ∀ x ∈ p2, x.block < W.heap.size := DataW.trod_lt n2 _ _ _ hn2
  obtain ⟨a2, b2, w2, m2⟩ := (dec_RG enc W n2) _ _ hn2
  have o2 := (told_ok plain_all (fun _ => rfl) n2 28 _ _ rfl hn2).2
  have mm2 := Nat.le_trans m2 (bulk_le d2)
  rw [b2] at o2
  have g2 := rep_agg Try.underlying28 (hval 2 28 v2 rfl rfl) o2
  have k3 := h3
  obtain ⟨n3, hn3⟩ := h3
  have lt3 : ∀ x ∈ p3, x.block < W.heap.size := DataW.trod_lt n3 _ _ _ hn3
  obtain ⟨a3, b3, w3, m3⟩ := (dec_LT enc W n3) _ _ hn3
  have o3 := (told_ok plain_all (fun _ => rfl) n3 31 _ _ rfl hn3).2
  have mm3 := Nat.le_trans m3 (bulk_le d3)
  rw [b3] at o3
  have g3 := rep_agg Try.underlying31 (hval 3 31 v3 rfl rfl) o3
  obtain ⟨a4, rfl, rfl, rfl, w4⟩ := open_int Try.underlying3 (hval 4 3 v4 rfl rfl) h4
  clear hA0 hval0 hsz0 hsz
  refine (walk_law (P := Try.prog) noX (Q.writes_of w0 w1 w2 w3 w4 (by omega) (H := [])) (imOf_ok W) (args_cons g0 rfl (args_cons g1 rfl (args_cons g2 rfl (args_cons g3 rfl (args_cons (.flat (.int _ _)) rfl args_nil)))))).mono fun e W' ⟨he, bel⟩ => ?_
  subst he
  exact ⟨_, rfl, _, _, _, [], _, [], hW', trodAll_mk1 (shut_bool Try.underlying4 _), (trodAll_cons_mk (Below.trod laidOut (by kernel_rfl) (of_decide_eq_true (by kernel_rfl)) k0 bel lt0) (trodAll_cons_mk (Below.trod laidOut (by kernel_rfl) (of_decide_eq_true (by kernel_rfl)) k1 bel lt1) (trodAll_cons_mk (Below.trod laidOut (by kernel_rfl) (of_decide_eq_true (by kernel_rfl)) k2 bel lt2) (trodAll_cons_mk (Below.trod laidOut (by kernel_rfl) (of_decide_eq_true (by kernel_rfl)) k3 bel lt3) (trodAll_cons_mk (shut_int Try.underlying3 w4) trodAll_mk0))))), rfl, bel.frame _, fun h => by cases h⟩
theorem over : Rows.entryWritesUptoRow.holds Try.pinned (Rows.OpenSpec.upto Rows.entryWritesSpec) :=
  OpenClaim.holds_of_cond 3 Try.f3 rfl rfl rfl rfl rfl rfl rfl ⟨rfl, rfl, rfl, rfl, rfl⟩ rfl rfl rfl rfl rfl (by kernel_rfl) Try.func3 (by kernel_rfl)
    (of_decide_eq_true (by kernel_rfl)) (by unfold Func.isWrapper; first | (rw [if_pos (by decide +kernel)]; kernel_rfl) | (rw [if_neg (by decide +kernel)]; exact ⟨rfl, rfl⟩))
    (fun os started H enc _ F => lifted os started H enc F)
theorem proved : Rows.EntryWritesUptoSaid := over
#print axioms proved
end Go.Proofs.Ytofbbijagbpicaa.entryWritesUpto
namespace Go.Proofs.Ytofbbijagbpicaa
/-- The row, under a short name, for the claim. -/
theorem entryWritesUpto_holds : Rows.EntryWritesUptoSaid := entryWritesUpto.proved
end Go.Proofs.Ytofbbijagbpicaa
