/- The law InstrBack: the Go function answers true for every input of bulk at most 1048576, and its arguments read afterwards as they read before (the statement Rows.InstrBackUptoSaid). Conditions: none beyond the statement's own. -/
import Derived.Test.YthidcpkcfoldmaaGreatRows
import Derived.Test.YthidcpkcfoldmaaGreatPiU5
import Derived.Test.YthidcpkcfoldmaaGreatBulk
import Derived.Deep.CondSized
import Derived.WalkKit
import Derived.ProofKit
import Derived.OpenShut
import Derived.ShutString
import Derived.ChangeOld
import Derived.Below
import Derived.SizedLaws
namespace Go.Proofs.YthidcpkcfoldmaaGreat.instrBackUpto
open Go.ChangeShapes Go.WideShapes Go.ChangeAt Go.RowKit
open Go.ChangeMaps (open_string shut_string)
open Go.Proofs.YthidcpkcfoldmaaGreat.Pi
set_option linter.unusedVariables false
theorem own : ownKnob Tryz.prog.godebug = none := by kernel_rfl
theorem laidOut : laidOutB Tryz.prog = true := by kernel_rfl
mutual
theorem bulk_le {H : Type} : ∀ d : DataW H, bulk d ≤ Rows.uptoBulk d
  | .lit l => by cases l <;> simp [bulk, Rows.uptoBulk]
  | .nil => by simp [bulk, Rows.uptoBulk]
  | .ptr d => by have := bulk_le d; simp only [bulk, Rows.uptoBulk]; omega
  | .slice elems spare => by have h1 := bulkL_le elems; have h2 := bulkL_le spare; simp only [bulk, Rows.uptoBulk]; omega
  | .agg parts => by have := bulkL_le parts; simp only [bulk, Rows.uptoBulk]; omega
  | .iface _ d => by simp [bulk, Rows.uptoBulk]
  | .map e => by simp [bulk, Rows.uptoBulk]
  | .held h => by simp [bulk, Rows.uptoBulk]
theorem bulkL_le {H : Type} : ∀ l : List (DataW H), bulkL l ≤ Rows.uptoBulkAll l
  | [] => by simp [bulkL, Rows.uptoBulkAll]
  | d :: r => by have h1 := bulk_le d; have h2 := bulkL_le r; simp only [bulkL, Rows.uptoBulkAll]; omega
end
set_option maxRecDepth 100000
theorem dec_MG {H : Type} (enc : TypeId × Value → H) (W : World) (n : Nat) : Dec (DecArgs.mk enc Tryz.prog W 0 (fun _ => true) true) n 26 Q.cs_MG Q.ok_MG Q.ms_MG :=
  Dec.map (dec_struct Tryz.underlying26 rfl (fun _ _ => (decF_cons (dec_int Tryz.underlying23) (decF_cons (dec_int Tryz.underlying23) (decF_cons (dec_int Tryz.underlying24) decF_nil))))) (fun p => (⟨p.1, p.2.1, p.2.2.1⟩ : Q.MG)) (fun _ => rfl) (fun _ h => h) (fun _ => Nat.le_refl _)
theorem dec_V {H : Type} (enc : TypeId × Value → H) (W : World) (n : Nat) : Dec (DecArgs.mk enc Tryz.prog W 0 (fun _ => true) true) n 28 Q.cs_V Q.ok_V Q.ms_V :=
  Dec.map (dec_struct Tryz.underlying28 rfl (fun _ _ => (decF_cons (dec_int Tryz.underlying3) (decF_cons (dec_bool Tryz.underlying4) (decF_cons (dec_int Tryz.underlying3) decF_nil))))) (fun p => (⟨p.1, p.2.1, p.2.2.1⟩ : Q.VT)) (fun _ => rfl) (fun _ h => h) (fun _ => Nat.le_refl _)
theorem dec_B {H : Type} (enc : TypeId × Value → H) (W : World) (n : Nat) : Dec (DecArgs.mk enc Tryz.prog W 0 (fun _ => true) true) n 30 Q.cs_B Q.ok_B Q.ms_B :=
  Dec.map (dec_struct Tryz.underlying30 rfl (fun _ _ => (decF_cons (dec_int Tryz.underlying3) (decF_cons (dec_V enc W _) decF_nil)))) (fun p => (⟨p.1, p.2.1⟩ : Q.BK)) (fun _ => rfl) (fun _ h => h) (fun _ => Nat.le_refl _)
theorem dec_CH {H : Type} (enc : TypeId × Value → H) (W : World) (n : Nat) : Dec (DecArgs.mk enc Tryz.prog W 0 (fun _ => true) true) n 82 Q.cs_CH Q.ok_CH Q.ms_CH :=
  Dec.map (dec_struct Tryz.underlying82 rfl (fun _ _ => (decF_cons (dec_int Tryz.underlying3) (decF_cons (dec_int Tryz.underlying23) (decF_cons (dec_int Tryz.underlying23) decF_nil))))) (fun p => (⟨p.1, p.2.1, p.2.2.1⟩ : Q.CH)) (fun _ => rfl) (fun _ h => h) (fun _ => Nat.le_refl _)
theorem dec_IG {H : Type} (enc : TypeId × Value → H) (W : World) (n : Nat) : Dec (DecArgs.mk enc Tryz.prog W 0 (fun _ => true) true) n 36 Q.cs_IG Q.ok_IG Q.ms_IG :=
  Dec.map (dec_struct Tryz.underlying36 rfl (fun _ _ => (decF_cons (dec_int Tryz.underlying3) (decF_cons (dec_int Tryz.underlying23) (decF_cons (dec_int Tryz.underlying23) (decF_cons (dec_int Tryz.underlying24) (decF_cons (dec_MG enc W _) (decF_cons (dec_B enc W _) (decF_cons (dec_any Tryz.underlying31) (decF_cons (dec_any Tryz.underlying31) (decF_cons (dec_bool Tryz.underlying4) (decF_cons (dec_list (ec := Q.encU32) (sz := 1) Tryz.underlying32 (fun _ _ => (dec_int Tryz.underlying23)) (fun _ => (by first | rfl | kernel_rfl)) (by kernel_rfl)) (decF_cons (dec_list (ec := Q.encV) (sz := 3) Tryz.underlying33 (fun _ _ => (dec_V enc W _)) (fun _ => (by first | rfl | kernel_rfl)) (by kernel_rfl)) (decF_cons (dec_list (ec := Q.encCH) (sz := 3) Tryz.underlying34 (fun _ _ => (dec_CH enc W _)) (fun _ => (by first | rfl | kernel_rfl)) (by kernel_rfl)) decF_nil)))))))))))))) (fun p => (⟨p.1, p.2.1, p.2.2.1, p.2.2.2.1, p.2.2.2.2.1, p.2.2.2.2.2.1, p.2.2.2.2.2.2.1, p.2.2.2.2.2.2.2.1, p.2.2.2.2.2.2.2.2.1, p.2.2.2.2.2.2.2.2.2.1, p.2.2.2.2.2.2.2.2.2.2.1, p.2.2.2.2.2.2.2.2.2.2.2.1⟩ : Q.IG)) (fun _ => rfl) (fun _ h => h) (fun _ => Nat.le_refl _)
theorem plain_all : ([3, 23, 24, 26, 4, 28, 30, 31, 32, 33, 82, 34, 36, 5, 22] : List TypeId).all (plainT Tryz.prog [3, 23, 24, 26, 4, 28, 30, 31, 32, 33, 82, 34, 36, 5, 22]) = true := by kernel_rfl
set_option maxRecDepth 100000 in
theorem lifted (os : Os) (started : os.Started) (H : Type) (enc : TypeId × Value → H) (F : Stop.Interp) :
    ReturnsInHanded {} Tryz.checked os 4 .any ((Rows.OpenSpec.upto Rows.instrBackSpec).pre6 enc Tryz.prog Tryz.f4 Rows.instrBackUptoRow.domain false) (((Rows.OpenSpec.upto Rows.instrBackSpec).at F).post enc Tryz.prog Tryz.f4 false true false false) := by
  refine returnsInHanded_of_cond_sized (C := Tryz.checked) (s := Rows.OpenSpec.upto Rows.instrBackSpec) (k := Rows.uptoSmall) rfl own started (by kernel_rfl) Tryz.func4
    (OpenSpec.witness (enc := enc) (C := Tryz.checked) (s := Rows.OpenSpec.upto Rows.instrBackSpec) (k := Rows.uptoSmall) rfl false ⟨#[], #[.agg #[.int .i64 0, .int .u32 0, .int .u32 0, .int .u64 0, .int .u32 0, .int .u32 0, .int .u64 0, .int .i64 0, .int .i64 0, .bool false, .int .i64 0, .slice none 0 0, .slice none 0 0, .bool false, .slice none 0 0, .slice none 0 0, .slice none 0 0], .slice none 0 0, .slice none 0 0], []⟩ 8 (by kernel_rfl) (by kernel_rfl) (by kernel_rfl)
      (x := ([.agg [.lit (.int .i64 0), .lit (.int .u32 0), .lit (.int .u32 0), .lit (.int .u64 0), .agg [.lit (.int .u32 0), .lit (.int .u32 0), .lit (.int .u64 0)], .agg [.lit (.int .i64 0), .agg [.lit (.int .i64 0), .lit (.bool false), .lit (.int .i64 0)]], .nil, .nil, .lit (.bool false), .nil, .nil, .nil], .nil, .nil], [], [])) (by kernel_rfl) rfl (by kernel_rfl)) ?_
  intro W base args ds gs before hval0 hW hcnd hk hsz0 _
  have hsz : (DataW.weightsEach Tryz.prog (Tryz.f4.params.toList ++ (Rows.OpenSpec.upto Rows.instrBackSpec).bare.plain.varTypes Tryz.prog) (ds ++ gs)).all (· ≤ reachBytes) = true := hsz0
  have hval : ∀ (j : Nat) t v, Tryz.f4.params[j]? = some t → args[j]? = some v → Value.okWide Tryz.prog W .any base t v := hval0
  have hW' := hW
  obtain ⟨p, q, hA0, hV, rfl, hfz, hnd⟩ := hW
  have hA : DataW.TrodAll enc Tryz.prog W 0 (fun _ => true) true Tryz.f4.params.toList args.toList ds p := hA0
  rw [Tryz.params4] at hA hval hsz
  obtain ⟨v0, vs0, d0, ds0, p0, q0, hargs, rfl, rfl, h0, r0⟩ := trodAll_cons hA
  obtain ⟨v1, vs1, d1, ds1, p1, q1, rfl, rfl, rfl, h1, r1⟩ := trodAll_cons r0
  obtain ⟨v2, vs2, d2, ds2, p2, q2, rfl, rfl, rfl, h2, r2⟩ := trodAll_cons r1
  obtain ⟨rfl, rfl, rfl⟩ := trodAll_nil r2
  obtain rfl : args = #[v0, v1, v2] := by cases args; simp_all
  obtain ⟨rfl, rfl⟩ := trodVars_none hV
  have hb := bulks.bound hk
  simp only [List.append_nil, Rows.uptoBulkAll] at hb
  have k0 := h0
  obtain ⟨n0, hn0⟩ := h0
  have lt0 : ∀ x ∈ p0, x.block < W.heap.size := DataW.trod_lt n0 _ _ _ hn0
  obtain ⟨a0, b0, w0, m0⟩ := (dec_IG enc W n0) _ _ hn0
  have o0 := (told_ok plain_all (fun _ => rfl) n0 36 _ _ rfl hn0).2
  have mm0 := Nat.le_trans m0 (bulk_le d0)
  rw [b0] at o0
  have g0 := rep_agg Tryz.underlying36 (hval 0 36 v0 rfl rfl) o0
  have k1 := h1
  obtain ⟨n1, hn1⟩ := h1
  have lt1 : ∀ x ∈ p1, x.block < W.heap.size := DataW.trod_lt n1 _ _ _ hn1
  obtain ⟨a1, b1, w1, m1⟩ := (dec_list (G := DecArgs.mk enc Tryz.prog W 0 (fun _ => true) true) (n := n1) (ec := Q.encU8) (sz := 1) Tryz.underlying22 (fun _ _ => (dec_int Tryz.underlying5)) (fun _ => (by first | rfl | kernel_rfl)) (by kernel_rfl)) _ _ hn1
  have o1 := (told_ok plain_all (fun _ => rfl) n1 22 _ _ rfl hn1).2
  have mm1 := Nat.le_trans m1 (bulk_le d1)
  simp only at mm1
  rw [b1] at o1
  have g1 := rep_cell Tryz.underlying22 (fun _ h => by cases h) (fun _ _ h => by cases h) (hval 1 22 v1 rfl rfl) o1
  have k2 := h2
  obtain ⟨n2, hn2⟩ := h2
  have lt2 : ∀ x ∈ p2, x.block < W.heap.size := DataW.trod_lt n2 _ _ _ hn2
  obtain ⟨a2, b2, w2, m2⟩ := (dec_list (G := DecArgs.mk enc Tryz.prog W 0 (fun _ => true) true) (n := n2) (ec := Q.encU8) (sz := 1) Tryz.underlying22 (fun _ _ => (dec_int Tryz.underlying5)) (fun _ => (by first | rfl | kernel_rfl)) (by kernel_rfl)) _ _ hn2
  have o2 := (told_ok plain_all (fun _ => rfl) n2 22 _ _ rfl hn2).2
  have mm2 := Nat.le_trans m2 (bulk_le d2)
  simp only at mm2
  rw [b2] at o2
  have g2 := rep_cell Tryz.underlying22 (fun _ h => by cases h) (fun _ _ h => by cases h) (hval 2 22 v2 rfl rfl) o2
  clear hA0 hval0 hsz0 hsz
  refine (walk_law (P := Tryz.prog) noX (Q.iback_of w0 w1 w2 (by omega) (by omega) (by omega) (H := [])) (imOf_ok W) (args_cons g0 rfl (args_cons g1 strip_Z (args_cons g2 strip_Z args_nil)))).mono fun e W' ⟨he, bel⟩ => ?_
  subst he
  exact ⟨_, rfl, _, _, _, [], _, [], hW', trodAll_mk1 (shut_bool Tryz.underlying4 _), (trodAll_cons_mk (Below.trod laidOut (by kernel_rfl) (of_decide_eq_true (by kernel_rfl)) k0 bel lt0) (trodAll_cons_mk (Below.trod laidOut (by kernel_rfl) (of_decide_eq_true (by kernel_rfl)) k1 bel lt1) (trodAll_cons_mk (Below.trod laidOut (by kernel_rfl) (of_decide_eq_true (by kernel_rfl)) k2 bel lt2) trodAll_mk0))), rfl, bel.frame _, fun h => by cases h⟩
theorem over : Rows.instrBackUptoRow.holds Tryz.pinned (Rows.OpenSpec.upto Rows.instrBackSpec) :=
  OpenClaim.holds_of_cond 4 Tryz.f4 rfl rfl rfl rfl rfl rfl rfl ⟨rfl, rfl, rfl, rfl, rfl⟩ rfl rfl rfl rfl rfl (by kernel_rfl) Tryz.func4 (by kernel_rfl)
    (of_decide_eq_true (by kernel_rfl)) (by unfold Func.isWrapper; first | (rw [if_pos (by decide +kernel)]; kernel_rfl) | (rw [if_neg (by decide +kernel)]; exact ⟨rfl, rfl⟩))
    (fun os started H enc _ F => lifted os started H enc F)
theorem proved : Rows.InstrBackUptoSaid := over
#print axioms proved
end Go.Proofs.YthidcpkcfoldmaaGreat.instrBackUpto
namespace Go.Proofs.YthidcpkcfoldmaaGreat
/-- The row, under a short name, for the claim. -/
theorem instrBackUpto_holds : Rows.InstrBackUptoSaid := instrBackUpto.proved
end Go.Proofs.YthidcpkcfoldmaaGreat
