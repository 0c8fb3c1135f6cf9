/- Contracts of Go functions, one after the other: the call answers what the Lean function of the same name says, under the premises that each theorem names. Written by this session's own program (wip/tools/mp.py, over the kit's print, with changes of its own); Lean checks it. -/
import Derived.Test.YteajikofpcnagaaLeb0
import Derived.Test.YteajikofpcnagaaLeb1
import Derived.Test.YteajikofpcnagaaLeb2
import Derived.Test.YteajikofpcnagaaLeb3
namespace Go.Proofs.Yteajikofpcnagaa.Leb
open Go.RowKit Go.Proofs.YteajikofpcnagaaW.PrintWords Go.Proofs.YteajikofpcnagaaW.PrintLast Go.Proofs.YteajikofpcnagaaW.PrintMore
attribute [local go_sem] max2_int min2_int max_two min_two max_three min_three max_four min_four   -- for this text's walks alone
set_option linter.unusedVariables false
set_option linter.unusedSimpArgs false

/-! ### leb_S33: function 29 -/
def leb_S33.f (k : Nat) (l0 : List Int) (a1 : Int) (a2 : Int) : Option (Int × Int × Int) := (leb_number_int64_int64_s33.f k l0 a1 a2).bind fun bt306 => (some (bt306.1, bt306.2.1, bt306.2.2))
theorem leb_S33.mono : ∀ a0 a1 a2 k, LeO (leb_S33.f k a0 a1 a2) (leb_S33.f (k + 1) a0 a1 a2) := by
  intro a0 a1 a2 k
  unfold leb_S33.f
  repeat' first
      | (with_reducible exact leb_number_int64_int64_s33.mono _ _ _ _)
      | (with_reducible exact LeO.refl _)
      | (with_reducible exact LeO.none _)
      | (with_reducible refine LeO.ite ?_ ?_)
      | (with_reducible refine LeO.bind ?_ (fun _ => ?_))
      | exact leb_number_int64_int64_s33.mono _ _ _ _
      | exact LeO.none _
      | refine LeO.ite ?_ ?_
      | refine LeO.bind ?_ (fun _ => ?_)
set_option maxHeartbeats 8000000 in
set_option maxRecDepth 100000 in
theorem leb_S33.calls (k : Nat) (A0 : Option Addr) (c0 : Nat) (l0 : List Int) (a1 : Int) (a2 : Int) (r1 : Int) (r2 : Int) (r3 : Int) (w : World) (hr0 : Kd.C (Kd.int .u8) w A0 l0.length l0) (hc0 : l0.length ≤ c0) (h : leb_S33.f k l0 a1 a2 = some (r1, r2, r3)) :
    Calls Try.prog 29 #[.slice A0 l0.length c0, .int .i64 a1, .int .i64 a2] w fun e w' => e = .returned (.tuple #[.int .i64 r1, .int .i64 r2, .int .i64 r3]) ∧ Below w.heap.size w w' := by
  have HR0 := Aside0.mk hr0
  have HC0 := Aside0.mk hc0
  clear hr0 hc0
  have HB := Aside0.mk (Below.refl w.heap.size w)
  have H : ((leb_number_int64_int64_s33.f k l0 a1 a2).bind fun bt306 => (some (bt306.1, bt306.2.1, bt306.2.2))) = some (r1, r2, r3) := h
  clear h
  replace H := Option.bind_eq_some_iff.mp H
  obtain ⟨⟨t306, t307, t308⟩, A40, H⟩ := H
  replace H : (some (t306, t307, t308)) = some (r1, r2, r3) := H
  have A4 := Aside0.mk A40
  clear A40
  simp only [Option.some.injEq, Prod.mk.injEq] at H
  obtain ⟨rfl, rfl, rfl⟩ := H
  go_enter Try.func29, Try.ntmps29
  go_wp2_with (first | ((with_reducible refine gate_callee (f := 64) rfl ?_); refine goesL_ (some 12) rfl rfl Try.func64 (by kernel_rfl) rfl #[.slice A0 l0.length c0, .int .i64 a1, .int .i64 a2, .func (.func 65) #[] #[]] rfl (by (try simp only [List.map_toArray, List.map_cons, List.map_nil]); first | done | rfl | (simp only [List.length_drop, List.length_take]; rfl)) ?_; (with_reducible refine (leb_number_int64_int64_s33.calls k _ _ l0 a1 a2  t306 t307 t308 _ ?side1 ?side2 A4.out).mono ?_); (case side1 => repeat (first | exact HR0.out | (with_reducible refine Kd.C_alloc ?_ _) | (with_reducible refine Kd.C_drewN ?_ _) | (with_reducible refine Kd.C_drew ?_))); (case side2 => exact HC0.out); rintro e w5 ⟨rfl, hb⟩; refine ⟨_, rfl, ?_⟩; have n0_ := Aside0.mk (below_step (by repeat (first | (with_reducible first | exact HB.out | apply below_alloc | apply pw_below_drewN | apply below_drew1) | exact HB.out)) hb); clear HB; have HB := n0_; clear n0_; (try clear hb); (try clear hb2); (try clear hk); (try clear hi)))
  go_ret3
  exact ⟨by first | rfl | (simp [errW_none, errW_some] <;> rfl) | (simp [*, errW_none, errW_some] <;> rfl), by repeat (first | (with_reducible first | exact HB.out | apply below_alloc | apply pw_below_drewN | apply below_drew1) | exact HB.out)⟩

/-! ### ratchetlaw01_LebWider: function 5 -/
def ratchetlaw01_LebWider.j0 : Nat → List Int → Option (Bool)
  | 0, _ => none
  | k + 1, x0 => (leb_S32.f k x0 0 (x0.length : Int)).bind fun bt318 => (if bt318.2.2 = 0 then ((leb_S33.f k x0 0 (x0.length : Int)).bind fun bt321 => ((leb_S64.f k x0 0 (x0.length : Int)).bind fun bt324 => (if bt321.2.2 = 0 then (if bt324.2.2 = 0 then (if bt321.1 = (wrap64 (bt318.1)) then (if bt324.1 = bt321.1 then (if bt321.2.1 = bt318.2.1 then (if bt324.2.1 = bt318.2.1 then (some true) else (some false)) else (some false)) else (some false)) else (some false)) else (some false)) else (some false)))) else (some true))
def ratchetlaw01_LebWider.f (k : Nat) (l0 : List Int) : Option (Bool) := (leb_PutU.f k 0).bind fun t309 => (if (t309.length : Int) = 1 then ((leb_U32.f k l0 0 (l0.length : Int)).bind fun bt312 => (if bt312.2.2 = 0 then ((leb_U64.f k l0 0 (l0.length : Int)).bind fun bt315 => (if bt315.2.2 = 0 then (if bt315.1 = (IntKind.u64.wrap (bt312.1)) then (if bt315.2.1 = bt312.2.1 then (ratchetlaw01_LebWider.j0 k l0) else (some false)) else (some false)) else (some false))) else (ratchetlaw01_LebWider.j0 k l0))) else (some false))
theorem ratchetlaw01_LebWider.mono_l : ∀ k, (∀ y0, LeO (ratchetlaw01_LebWider.j0 k y0) (ratchetlaw01_LebWider.j0 (k + 1) y0))
  | 0 => fun _ r h => by simp [ratchetlaw01_LebWider.j0] at h
  | k + 1 => by
    have ih0 := ratchetlaw01_LebWider.mono_l k
    · intro y0
      unfold ratchetlaw01_LebWider.j0
      repeat' first
      | (with_reducible exact ih0 _)
      | (with_reducible exact leb_PutU.mono _ _)
      | (with_reducible exact leb_S32.mono _ _ _ _)
      | (with_reducible exact leb_S33.mono _ _ _ _)
      | (with_reducible exact leb_S64.mono _ _ _ _)
      | (with_reducible exact leb_U32.mono _ _ _ _)
      | (with_reducible exact leb_U64.mono _ _ _ _)
      | (with_reducible exact LeO.refl _)
      | (with_reducible exact LeO.none _)
      | (with_reducible refine LeO.ite ?_ ?_)
      | (with_reducible refine LeO.bind ?_ (fun _ => ?_))
      | exact ih0 _
      | exact leb_PutU.mono _ _
      | exact leb_S32.mono _ _ _ _
      | exact leb_S33.mono _ _ _ _
      | exact leb_S64.mono _ _ _ _
      | exact leb_U32.mono _ _ _ _
      | exact leb_U64.mono _ _ _ _
      | exact LeO.none _
      | refine LeO.ite ?_ ?_
      | refine LeO.bind ?_ (fun _ => ?_)
theorem ratchetlaw01_LebWider.mono : ∀ a0 k, LeO (ratchetlaw01_LebWider.f k a0) (ratchetlaw01_LebWider.f (k + 1) a0) := by
  intro a0 k
  have ih0 := ratchetlaw01_LebWider.mono_l k
  unfold ratchetlaw01_LebWider.f
  repeat' first
      | (with_reducible exact ih0 _)
      | (with_reducible exact leb_PutU.mono _ _)
      | (with_reducible exact leb_S32.mono _ _ _ _)
      | (with_reducible exact leb_S33.mono _ _ _ _)
      | (with_reducible exact leb_S64.mono _ _ _ _)
      | (with_reducible exact leb_U32.mono _ _ _ _)
      | (with_reducible exact leb_U64.mono _ _ _ _)
      | (with_reducible exact LeO.refl _)
      | (with_reducible exact LeO.none _)
      | (with_reducible refine LeO.ite ?_ ?_)
      | (with_reducible refine LeO.bind ?_ (fun _ => ?_))
      | exact ih0 _
      | exact leb_PutU.mono _ _
      | exact leb_S32.mono _ _ _ _
      | exact leb_S33.mono _ _ _ _
      | exact leb_S64.mono _ _ _ _
      | exact leb_U32.mono _ _ _ _
      | exact leb_U64.mono _ _ _ _
      | exact LeO.none _
      | refine LeO.ite ?_ ?_
      | refine LeO.bind ?_ (fun _ => ?_)
set_option maxHeartbeats 8000000 in
set_option maxRecDepth 100000 in
theorem ratchetlaw01_LebWider.calls (k : Nat) (A0 : Option Addr) (c0 : Nat) (l0 : List Int) (r : Bool) (w : World) (hr0 : Kd.C (Kd.int .u8) w A0 l0.length l0) (hc0 : l0.length ≤ c0) (h : ratchetlaw01_LebWider.f k l0 = some r) :
    Calls Try.prog 5 #[.slice A0 l0.length c0] w fun e w' => e = .returned (.bool r) ∧ Below w.heap.size w w' := by
  have HR0 := Aside0.mk hr0
  have HC0 := Aside0.mk hc0
  clear hr0 hc0
  have HB := Aside0.mk (Below.refl w.heap.size w)
  have H : ((leb_PutU.f k 0).bind fun t309 => (if (t309.length : Int) = 1 then ((leb_U32.f k l0 0 (l0.length : Int)).bind fun bt312 => (if bt312.2.2 = 0 then ((leb_U64.f k l0 0 (l0.length : Int)).bind fun bt315 => (if bt315.2.2 = 0 then (if bt315.1 = (IntKind.u64.wrap (bt312.1)) then (if bt315.2.1 = bt312.2.1 then (ratchetlaw01_LebWider.j0 k l0) else (some false)) else (some false)) else (some false))) else (ratchetlaw01_LebWider.j0 k l0))) else (some false))) = some r := h
  clear h
  replace H := Option.bind_eq_some_iff.mp H
  obtain ⟨t309, A20, H⟩ := H
  replace H : (if (t309.length : Int) = 1 then ((leb_U32.f k l0 0 (l0.length : Int)).bind fun bt312 => (if bt312.2.2 = 0 then ((leb_U64.f k l0 0 (l0.length : Int)).bind fun bt315 => (if bt315.2.2 = 0 then (if bt315.1 = (IntKind.u64.wrap (bt312.1)) then (if bt315.2.1 = bt312.2.1 then (ratchetlaw01_LebWider.j0 k l0) else (some false)) else (some false)) else (some false))) else (ratchetlaw01_LebWider.j0 k l0))) else (some false)) = some r := H
  have A2 := Aside0.mk A20
  clear A20
  by_cases c3 : (t309.length : Int) = 1
  · rw [if_pos c3] at H
    have c3b0 : ((t309.length : Int) == 1) = true := beq_iff_eq.mpr c3
    have c3b1 : ((t309.length : Int) != 1) = false := bne_eq_false_iff_eq.mpr c3
    clear c3
    replace H := Option.bind_eq_some_iff.mp H
    obtain ⟨⟨t312, t313, t314⟩, A40, H⟩ := H
    replace H : (if t314 = 0 then ((leb_U64.f k l0 0 (l0.length : Int)).bind fun bt315 => (if bt315.2.2 = 0 then (if bt315.1 = (IntKind.u64.wrap (t312)) then (if bt315.2.1 = t313 then (ratchetlaw01_LebWider.j0 k l0) else (some false)) else (some false)) else (some false))) else (ratchetlaw01_LebWider.j0 k l0)) = some r := H
    have A4 := Aside0.mk A40
    clear A40
    have HC5 := Aside0.mk H
    clear H
    go_enter Try.func5, Try.ntmps5
    go_upto_if 28 with (first | ((with_reducible refine gate_callee (f := 13) rfl ?_); refine goesL_ (some 16) rfl rfl Try.func13 (by kernel_rfl) rfl #[.int .u64 0] rfl (by (try simp only [List.map_toArray, List.map_cons, List.map_nil]); first | done | rfl | (simp only [List.length_drop, List.length_take]; rfl)) ?_; (with_reducible refine (leb_PutU.calls k 0 t309 _ A2.out).mono ?_); rintro e w6 ⟨v310, rfl, ho0, hb⟩; refine ⟨_, rfl, ?_⟩; have n0_ := Aside0.mk (Kd.R_lower ho0 (below_size (by repeat (first | (with_reducible first | exact HB.out | apply below_alloc | apply pw_below_drewN | apply below_drew1) | exact HB.out)))); have n1_ := Aside0.mk (below_step (by repeat (first | (with_reducible first | exact HB.out | apply below_alloc | apply pw_below_drewN | apply below_drew1) | exact HB.out)) hb); clear HB; have HO311 := n0_; have HB := n1_; clear n0_ n1_; (try clear hb); (try clear hb2); (try clear hk); (try clear hi); (try clear ho0); obtain ⟨Ao7, co7, eo7⟩ := Kd.R_slice HO311.out; subst eo7) | ((with_reducible refine gate_callee (f := 26) rfl ?_); refine goesL_ (some 23) rfl rfl Try.func26 (by kernel_rfl) rfl #[.slice A0 l0.length c0, .int .i64 0, .int .i64 (l0.length : Int)] rfl (by (try simp only [List.map_toArray, List.map_cons, List.map_nil]); first | done | rfl | (simp only [List.length_drop, List.length_take]; rfl)) ?_; (with_reducible refine (leb_U32.calls k _ _ l0 0 (l0.length : Int) t312 t313 t314 _ ?side1 ?side2 A4.out).mono ?_); (case side1 => repeat (first | exact (Kd.C_below HR0.out HB.out) | (with_reducible refine Kd.C_alloc ?_ _) | (with_reducible refine Kd.C_drewN ?_ _) | (with_reducible refine Kd.C_drew ?_))); (case side2 => exact HC0.out); rintro e w8 ⟨rfl, hb⟩; refine ⟨_, rfl, ?_⟩; have n0_ := Aside0.mk (Kd.R_below (by (with_reducible repeat (first | apply Kd.R_alloc | apply Kd.R_drewN | apply Kd.R_drew)); exact HO311.out) hb); have n1_ := Aside0.mk (below_step (by repeat (first | (with_reducible first | exact HB.out | apply below_alloc | apply pw_below_drewN | apply below_drew1) | exact HB.out)) hb); clear HO311; clear HB; have HO311 := n0_; have HB := n1_; clear n0_ n1_; (try clear hb); (try clear hb2); (try clear hk); (try clear hi)))
    (try simp only [Act.put, List.setIfInBounds_toArray, List.set_cons_zero, List.set_cons_succ])
    go_cut [] (fun wc => ∃ (kq : Nat), Aside0 (ratchetlaw01_LebWider.j0 kq l0 = some r) ∧ Aside0 (kq ≤ k) ∧ Aside0 (Below w.heap.size w wc))
    case first =>
      have H := HC5.out
      clear HC5
      by_cases c9 : t314 = 0
      · rw [if_pos c9] at H
        have c9b0 : (t314 == 0) = true := beq_iff_eq.mpr c9
        have c9b1 : (t314 != 0) = false := bne_eq_false_iff_eq.mpr c9
        clear c9
        (first | rw [c9b0] | (simp only [i64_w, i32_w]; rw [c9b0]) | skip)
        replace H := Option.bind_eq_some_iff.mp H
        obtain ⟨⟨t315, t316, t317⟩, A100, H⟩ := H
        replace H : (if t317 = 0 then (if t315 = (IntKind.u64.wrap (t312)) then (if t316 = t313 then (ratchetlaw01_LebWider.j0 k l0) else (some false)) else (some false)) else (some false)) = some r := H
        have A10 := Aside0.mk A100
        clear A100
        by_cases c11 : t317 = 0
        · rw [if_pos c11] at H
          have c11b0 : (t317 == 0) = true := beq_iff_eq.mpr c11
          have c11b1 : (t317 != 0) = false := bne_eq_false_iff_eq.mpr c11
          clear c11
          by_cases c12 : t315 = (IntKind.u64.wrap (t312))
          · rw [if_pos c12] at H
            have c12b0 : (t315 == (IntKind.u64.wrap (t312))) = true := beq_iff_eq.mpr c12
            have c12b1 : (t315 != (IntKind.u64.wrap (t312))) = false := bne_eq_false_iff_eq.mpr c12
            clear c12
            by_cases c13 : t316 = t313
            · rw [if_pos c13] at H
              have c13b0 : (t316 == t313) = true := beq_iff_eq.mpr c13
              have c13b1 : (t316 != t313) = false := bne_eq_false_iff_eq.mpr c13
              clear c13
              have H' := Aside0.mk H
              clear H
              go_wp2_with (first | ((with_reducible refine gate_callee (f := 27) rfl ?_); refine goesL_ (some 33) rfl rfl Try.func27 (by kernel_rfl) rfl #[.slice A0 l0.length c0, .int .i64 0, .int .i64 (l0.length : Int)] rfl (by (try simp only [List.map_toArray, List.map_cons, List.map_nil]); first | done | rfl | (simp only [List.length_drop, List.length_take]; rfl)) ?_; (with_reducible refine (leb_U64.calls k _ _ l0 0 (l0.length : Int) t315 t316 t317 _ ?side1 ?side2 A10.out).mono ?_); (case side1 => repeat (first | exact (Kd.C_below HR0.out HB.out) | (with_reducible refine Kd.C_alloc ?_ _) | (with_reducible refine Kd.C_drewN ?_ _) | (with_reducible refine Kd.C_drew ?_))); (case side2 => exact HC0.out); rintro e w14 ⟨rfl, hb⟩; refine ⟨_, rfl, ?_⟩; have n0_ := Aside0.mk (Kd.R_below (by (with_reducible repeat (first | apply Kd.R_alloc | apply Kd.R_drewN | apply Kd.R_drew)); exact HO311.out) hb); have n1_ := Aside0.mk (below_step (by repeat (first | (with_reducible first | exact HB.out | apply below_alloc | apply pw_below_drewN | apply below_drew1) | exact HB.out)) hb); clear HO311; clear HB; have HO311 := n0_; have HB := n1_; clear n0_ n1_; (try clear hb); (try clear hb2); (try clear hk); (try clear hi)))
              go_meet
              case rel => exact ⟨_, H', ⟨by first | omega | exact Nat.le_refl _⟩, ⟨by repeat (first | (with_reducible first | exact HB.out | apply below_alloc | apply pw_below_drewN | apply below_drew1) | exact HB.out)⟩⟩
            · rw [if_neg c13] at H
              have c13b0 : (t316 == t313) = false := beq_eq_false_iff_ne.mpr c13
              have c13b1 : (t316 != t313) = true := bne_iff_ne.mpr c13
              obtain rfl := Option.some.inj H
              go_wp2_with (first | ((with_reducible refine gate_callee (f := 27) rfl ?_); refine goesL_ (some 33) rfl rfl Try.func27 (by kernel_rfl) rfl #[.slice A0 l0.length c0, .int .i64 0, .int .i64 (l0.length : Int)] rfl (by (try simp only [List.map_toArray, List.map_cons, List.map_nil]); first | done | rfl | (simp only [List.length_drop, List.length_take]; rfl)) ?_; (with_reducible refine (leb_U64.calls k _ _ l0 0 (l0.length : Int) t315 t316 t317 _ ?side1 ?side2 A10.out).mono ?_); (case side1 => repeat (first | exact (Kd.C_below HR0.out HB.out) | (with_reducible refine Kd.C_alloc ?_ _) | (with_reducible refine Kd.C_drewN ?_ _) | (with_reducible refine Kd.C_drew ?_))); (case side2 => exact HC0.out); rintro e w15 ⟨rfl, hb⟩; refine ⟨_, rfl, ?_⟩; have n0_ := Aside0.mk (Kd.R_below (by (with_reducible repeat (first | apply Kd.R_alloc | apply Kd.R_drewN | apply Kd.R_drew)); exact HO311.out) hb); have n1_ := Aside0.mk (below_step (by repeat (first | (with_reducible first | exact HB.out | apply below_alloc | apply pw_below_drewN | apply below_drew1) | exact HB.out)) hb); clear HO311; clear HB; have HO311 := n0_; have HB := n1_; clear n0_ n1_; (try clear hb); (try clear hb2); (try clear hk); (try clear hi)))
              go_ret
              exact ⟨by first | rfl | (simp [errW_none, errW_some] <;> rfl) | (simp [*, errW_none, errW_some] <;> rfl), by repeat (first | (with_reducible first | exact HB.out | apply below_alloc | apply pw_below_drewN | apply below_drew1) | exact HB.out)⟩
          · rw [if_neg c12] at H
            have c12b0 : (t315 == (IntKind.u64.wrap (t312))) = false := beq_eq_false_iff_ne.mpr c12
            have c12b1 : (t315 != (IntKind.u64.wrap (t312))) = true := bne_iff_ne.mpr c12
            obtain rfl := Option.some.inj H
            go_wp2_with (first | ((with_reducible refine gate_callee (f := 27) rfl ?_); refine goesL_ (some 33) rfl rfl Try.func27 (by kernel_rfl) rfl #[.slice A0 l0.length c0, .int .i64 0, .int .i64 (l0.length : Int)] rfl (by (try simp only [List.map_toArray, List.map_cons, List.map_nil]); first | done | rfl | (simp only [List.length_drop, List.length_take]; rfl)) ?_; (with_reducible refine (leb_U64.calls k _ _ l0 0 (l0.length : Int) t315 t316 t317 _ ?side1 ?side2 A10.out).mono ?_); (case side1 => repeat (first | exact (Kd.C_below HR0.out HB.out) | (with_reducible refine Kd.C_alloc ?_ _) | (with_reducible refine Kd.C_drewN ?_ _) | (with_reducible refine Kd.C_drew ?_))); (case side2 => exact HC0.out); rintro e w16 ⟨rfl, hb⟩; refine ⟨_, rfl, ?_⟩; have n0_ := Aside0.mk (Kd.R_below (by (with_reducible repeat (first | apply Kd.R_alloc | apply Kd.R_drewN | apply Kd.R_drew)); exact HO311.out) hb); have n1_ := Aside0.mk (below_step (by repeat (first | (with_reducible first | exact HB.out | apply below_alloc | apply pw_below_drewN | apply below_drew1) | exact HB.out)) hb); clear HO311; clear HB; have HO311 := n0_; have HB := n1_; clear n0_ n1_; (try clear hb); (try clear hb2); (try clear hk); (try clear hi)))
            go_ret
            exact ⟨by first | rfl | (simp [errW_none, errW_some] <;> rfl) | (simp [*, errW_none, errW_some] <;> rfl), by repeat (first | (with_reducible first | exact HB.out | apply below_alloc | apply pw_below_drewN | apply below_drew1) | exact HB.out)⟩
        · rw [if_neg c11] at H
          have c11b0 : (t317 == 0) = false := beq_eq_false_iff_ne.mpr c11
          have c11b1 : (t317 != 0) = true := bne_iff_ne.mpr c11
          obtain rfl := Option.some.inj H
          go_wp2_with (first | ((with_reducible refine gate_callee (f := 27) rfl ?_); refine goesL_ (some 33) rfl rfl Try.func27 (by kernel_rfl) rfl #[.slice A0 l0.length c0, .int .i64 0, .int .i64 (l0.length : Int)] rfl (by (try simp only [List.map_toArray, List.map_cons, List.map_nil]); first | done | rfl | (simp only [List.length_drop, List.length_take]; rfl)) ?_; (with_reducible refine (leb_U64.calls k _ _ l0 0 (l0.length : Int) t315 t316 t317 _ ?side1 ?side2 A10.out).mono ?_); (case side1 => repeat (first | exact (Kd.C_below HR0.out HB.out) | (with_reducible refine Kd.C_alloc ?_ _) | (with_reducible refine Kd.C_drewN ?_ _) | (with_reducible refine Kd.C_drew ?_))); (case side2 => exact HC0.out); rintro e w17 ⟨rfl, hb⟩; refine ⟨_, rfl, ?_⟩; have n0_ := Aside0.mk (Kd.R_below (by (with_reducible repeat (first | apply Kd.R_alloc | apply Kd.R_drewN | apply Kd.R_drew)); exact HO311.out) hb); have n1_ := Aside0.mk (below_step (by repeat (first | (with_reducible first | exact HB.out | apply below_alloc | apply pw_below_drewN | apply below_drew1) | exact HB.out)) hb); clear HO311; clear HB; have HO311 := n0_; have HB := n1_; clear n0_ n1_; (try clear hb); (try clear hb2); (try clear hk); (try clear hi)))
          go_ret
          exact ⟨by first | rfl | (simp [errW_none, errW_some] <;> rfl) | (simp [*, errW_none, errW_some] <;> rfl), by repeat (first | (with_reducible first | exact HB.out | apply below_alloc | apply pw_below_drewN | apply below_drew1) | exact HB.out)⟩
      · rw [if_neg c9] at H
        have c9b0 : (t314 == 0) = false := beq_eq_false_iff_ne.mpr c9
        have c9b1 : (t314 != 0) = true := bne_iff_ne.mpr c9
        (first | rw [c9b0] | (simp only [i64_w, i32_w]; rw [c9b0]) | skip)
        have H' := Aside0.mk H
        clear H
        go_wp2
        go_meet
        case rel => exact ⟨_, H', ⟨by first | omega | exact Nat.le_refl _⟩, ⟨by repeat (first | (with_reducible first | exact HB.out | apply below_alloc | apply pw_below_drewN | apply below_drew1) | exact HB.out)⟩⟩
    case rest =>
      clear HC5
      try clear c1
      try clear c2
      try clear p2
      try clear c3
      try clear c3b0
      try clear c3b1
      try clear c5
      try clear c9
      try clear c9b0
      try clear c9b1
      try clear c11
      try clear c11b0
      try clear c11b1
      try clear c12
      try clear c12b0
      try clear c12b1
      try clear c13
      try clear c13b0
      try clear c13b1
      obtain ⟨kq, HA, HJ4, HB⟩ := hcut
      cases kq with
      | zero => exact absurd HA.out (by simp [ratchetlaw01_LebWider.j0])
      | succ kj4 =>
        have H := HA.out
        clear HA
        simp only [ratchetlaw01_LebWider.j0] at H
        replace H := Option.bind_eq_some_iff.mp H
        obtain ⟨⟨t318, t319, t320⟩, A180, H⟩ := H
        replace H : (if t320 = 0 then ((leb_S33.f kj4 l0 0 (l0.length : Int)).bind fun bt321 => ((leb_S64.f kj4 l0 0 (l0.length : Int)).bind fun bt324 => (if bt321.2.2 = 0 then (if bt324.2.2 = 0 then (if bt321.1 = (wrap64 (t318)) then (if bt324.1 = bt321.1 then (if bt321.2.1 = t319 then (if bt324.2.1 = t319 then (some true) else (some false)) else (some false)) else (some false)) else (some false)) else (some false)) else (some false)))) else (some true)) = some r := H
        have A18 := Aside0.mk A180
        clear A180
        by_cases c19 : t320 = 0
        · rw [if_pos c19] at H
          have c19b0 : (t320 == 0) = true := beq_iff_eq.mpr c19
          have c19b1 : (t320 != 0) = false := bne_eq_false_iff_eq.mpr c19
          clear c19
          replace H := Option.bind_eq_some_iff.mp H
          obtain ⟨⟨t321, t322, t323⟩, A200, H⟩ := H
          replace H : ((leb_S64.f kj4 l0 0 (l0.length : Int)).bind fun bt324 => (if t323 = 0 then (if bt324.2.2 = 0 then (if t321 = (wrap64 (t318)) then (if bt324.1 = t321 then (if t322 = t319 then (if bt324.2.1 = t319 then (some true) else (some false)) else (some false)) else (some false)) else (some false)) else (some false)) else (some false))) = some r := H
          have A20 := Aside0.mk A200
          clear A200
          replace H := Option.bind_eq_some_iff.mp H
          obtain ⟨⟨t324, t325, t326⟩, A210, H⟩ := H
          replace H : (if t323 = 0 then (if t326 = 0 then (if t321 = (wrap64 (t318)) then (if t324 = t321 then (if t322 = t319 then (if t325 = t319 then (some true) else (some false)) else (some false)) else (some false)) else (some false)) else (some false)) else (some false)) = some r := H
          have A21 := Aside0.mk A210
          clear A210
          by_cases c22 : t323 = 0
          · rw [if_pos c22] at H
            have c22b0 : (t323 == 0) = true := beq_iff_eq.mpr c22
            have c22b1 : (t323 != 0) = false := bne_eq_false_iff_eq.mpr c22
            clear c22
            by_cases c23 : t326 = 0
            · rw [if_pos c23] at H
              have c23b0 : (t326 == 0) = true := beq_iff_eq.mpr c23
              have c23b1 : (t326 != 0) = false := bne_eq_false_iff_eq.mpr c23
              clear c23
              by_cases c24 : t321 = (wrap64 (t318))
              · rw [if_pos c24] at H
                have c24b0 : (t321 == (wrap64 (t318))) = true := beq_iff_eq.mpr c24
                have c24b1 : (t321 != (wrap64 (t318))) = false := bne_eq_false_iff_eq.mpr c24
                clear c24
                by_cases c25 : t324 = t321
                · rw [if_pos c25] at H
                  have c25b0 : (t324 == t321) = true := beq_iff_eq.mpr c25
                  have c25b1 : (t324 != t321) = false := bne_eq_false_iff_eq.mpr c25
                  clear c25
                  by_cases c26 : t322 = t319
                  · rw [if_pos c26] at H
                    have c26b0 : (t322 == t319) = true := beq_iff_eq.mpr c26
                    have c26b1 : (t322 != t319) = false := bne_eq_false_iff_eq.mpr c26
                    clear c26
                    by_cases c27 : t325 = t319
                    · rw [if_pos c27] at H
                      have c27b0 : (t325 == t319) = true := beq_iff_eq.mpr c27
                      have c27b1 : (t325 != t319) = false := bne_eq_false_iff_eq.mpr c27
                      clear c27
                      obtain rfl := Option.some.inj H
                      go_wp2_with (first | ((with_reducible refine gate_callee (f := 28) rfl ?_); refine goesL_ (some 54) rfl rfl Try.func28 (by kernel_rfl) rfl #[.slice A0 l0.length c0, .int .i64 0, .int .i64 (l0.length : Int)] rfl (by (try simp only [List.map_toArray, List.map_cons, List.map_nil]); first | done | rfl | (simp only [List.length_drop, List.length_take]; rfl)) ?_; (with_reducible refine (leb_S32.calls kj4 _ _ l0 0 (l0.length : Int) t318 t319 t320 _ ?side1 ?side2 A18.out).mono ?_); (case side1 => repeat (first | exact (Kd.C_below HR0.out HB.out) | (with_reducible refine Kd.C_alloc ?_ _) | (with_reducible refine Kd.C_drewN ?_ _) | (with_reducible refine Kd.C_drew ?_))); (case side2 => exact HC0.out); rintro e w28 ⟨rfl, hb⟩; refine ⟨_, rfl, ?_⟩; have n0_ := Aside0.mk (below_step (by repeat (first | (with_reducible first | exact HB.out | apply below_alloc | apply pw_below_drewN | apply below_drew1) | exact HB.out)) hb); clear HB; have HB := n0_; clear n0_; (try clear hb); (try clear hb2); (try clear hk); (try clear hi)) | ((with_reducible refine gate_callee (f := 29) rfl ?_); refine goesL_ (some 64) rfl rfl Try.func29 (by kernel_rfl) rfl #[.slice A0 l0.length c0, .int .i64 0, .int .i64 (l0.length : Int)] rfl (by (try simp only [List.map_toArray, List.map_cons, List.map_nil]); first | done | rfl | (simp only [List.length_drop, List.length_take]; rfl)) ?_; (with_reducible refine (leb_S33.calls kj4 _ _ l0 0 (l0.length : Int) t321 t322 t323 _ ?side1 ?side2 A20.out).mono ?_); (case side1 => repeat (first | exact (Kd.C_below HR0.out HB.out) | (with_reducible refine Kd.C_alloc ?_ _) | (with_reducible refine Kd.C_drewN ?_ _) | (with_reducible refine Kd.C_drew ?_))); (case side2 => exact HC0.out); rintro e w29 ⟨rfl, hb⟩; refine ⟨_, rfl, ?_⟩; have n0_ := Aside0.mk (below_step (by repeat (first | (with_reducible first | exact HB.out | apply below_alloc | apply pw_below_drewN | apply below_drew1) | exact HB.out)) hb); clear HB; have HB := n0_; clear n0_; (try clear hb); (try clear hb2); (try clear hk); (try clear hi)) | ((with_reducible refine gate_callee (f := 30) rfl ?_); refine goesL_ (some 72) rfl rfl Try.func30 (by kernel_rfl) rfl #[.slice A0 l0.length c0, .int .i64 0, .int .i64 (l0.length : Int)] rfl (by (try simp only [List.map_toArray, List.map_cons, List.map_nil]); first | done | rfl | (simp only [List.length_drop, List.length_take]; rfl)) ?_; (with_reducible refine (leb_S64.calls kj4 _ _ l0 0 (l0.length : Int) t324 t325 t326 _ ?side1 ?side2 A21.out).mono ?_); (case side1 => repeat (first | exact (Kd.C_below HR0.out HB.out) | (with_reducible refine Kd.C_alloc ?_ _) | (with_reducible refine Kd.C_drewN ?_ _) | (with_reducible refine Kd.C_drew ?_))); (case side2 => exact HC0.out); rintro e w30 ⟨rfl, hb⟩; refine ⟨_, rfl, ?_⟩; have n0_ := Aside0.mk (below_step (by repeat (first | (with_reducible first | exact HB.out | apply below_alloc | apply pw_below_drewN | apply below_drew1) | exact HB.out)) hb); clear HB; have HB := n0_; clear n0_; (try clear hb); (try clear hb2); (try clear hk); (try clear hi)))
                      go_ret
                      exact ⟨by first | rfl | (simp [errW_none, errW_some] <;> rfl) | (simp [*, errW_none, errW_some] <;> rfl), by repeat (first | (with_reducible first | exact HB.out | apply below_alloc | apply pw_below_drewN | apply below_drew1) | exact HB.out)⟩
                    · rw [if_neg c27] at H
                      have c27b0 : (t325 == t319) = false := beq_eq_false_iff_ne.mpr c27
                      have c27b1 : (t325 != t319) = true := bne_iff_ne.mpr c27
                      obtain rfl := Option.some.inj H
                      go_wp2_with (first | ((with_reducible refine gate_callee (f := 28) rfl ?_); refine goesL_ (some 54) rfl rfl Try.func28 (by kernel_rfl) rfl #[.slice A0 l0.length c0, .int .i64 0, .int .i64 (l0.length : Int)] rfl (by (try simp only [List.map_toArray, List.map_cons, List.map_nil]); first | done | rfl | (simp only [List.length_drop, List.length_take]; rfl)) ?_; (with_reducible refine (leb_S32.calls kj4 _ _ l0 0 (l0.length : Int) t318 t319 t320 _ ?side1 ?side2 A18.out).mono ?_); (case side1 => repeat (first | exact (Kd.C_below HR0.out HB.out) | (with_reducible refine Kd.C_alloc ?_ _) | (with_reducible refine Kd.C_drewN ?_ _) | (with_reducible refine Kd.C_drew ?_))); (case side2 => exact HC0.out); rintro e w31 ⟨rfl, hb⟩; refine ⟨_, rfl, ?_⟩; have n0_ := Aside0.mk (below_step (by repeat (first | (with_reducible first | exact HB.out | apply below_alloc | apply pw_below_drewN | apply below_drew1) | exact HB.out)) hb); clear HB; have HB := n0_; clear n0_; (try clear hb); (try clear hb2); (try clear hk); (try clear hi)) | ((with_reducible refine gate_callee (f := 29) rfl ?_); refine goesL_ (some 64) rfl rfl Try.func29 (by kernel_rfl) rfl #[.slice A0 l0.length c0, .int .i64 0, .int .i64 (l0.length : Int)] rfl (by (try simp only [List.map_toArray, List.map_cons, List.map_nil]); first | done | rfl | (simp only [List.length_drop, List.length_take]; rfl)) ?_; (with_reducible refine (leb_S33.calls kj4 _ _ l0 0 (l0.length : Int) t321 t322 t323 _ ?side1 ?side2 A20.out).mono ?_); (case side1 => repeat (first | exact (Kd.C_below HR0.out HB.out) | (with_reducible refine Kd.C_alloc ?_ _) | (with_reducible refine Kd.C_drewN ?_ _) | (with_reducible refine Kd.C_drew ?_))); (case side2 => exact HC0.out); rintro e w32 ⟨rfl, hb⟩; refine ⟨_, rfl, ?_⟩; have n0_ := Aside0.mk (below_step (by repeat (first | (with_reducible first | exact HB.out | apply below_alloc | apply pw_below_drewN | apply below_drew1) | exact HB.out)) hb); clear HB; have HB := n0_; clear n0_; (try clear hb); (try clear hb2); (try clear hk); (try clear hi)) | ((with_reducible refine gate_callee (f := 30) rfl ?_); refine goesL_ (some 72) rfl rfl Try.func30 (by kernel_rfl) rfl #[.slice A0 l0.length c0, .int .i64 0, .int .i64 (l0.length : Int)] rfl (by (try simp only [List.map_toArray, List.map_cons, List.map_nil]); first | done | rfl | (simp only [List.length_drop, List.length_take]; rfl)) ?_; (with_reducible refine (leb_S64.calls kj4 _ _ l0 0 (l0.length : Int) t324 t325 t326 _ ?side1 ?side2 A21.out).mono ?_); (case side1 => repeat (first | exact (Kd.C_below HR0.out HB.out) | (with_reducible refine Kd.C_alloc ?_ _) | (with_reducible refine Kd.C_drewN ?_ _) | (with_reducible refine Kd.C_drew ?_))); (case side2 => exact HC0.out); rintro e w33 ⟨rfl, hb⟩; refine ⟨_, rfl, ?_⟩; have n0_ := Aside0.mk (below_step (by repeat (first | (with_reducible first | exact HB.out | apply below_alloc | apply pw_below_drewN | apply below_drew1) | exact HB.out)) hb); clear HB; have HB := n0_; clear n0_; (try clear hb); (try clear hb2); (try clear hk); (try clear hi)))
                      go_ret
                      exact ⟨by first | rfl | (simp [errW_none, errW_some] <;> rfl) | (simp [*, errW_none, errW_some] <;> rfl), by repeat (first | (with_reducible first | exact HB.out | apply below_alloc | apply pw_below_drewN | apply below_drew1) | exact HB.out)⟩
                  · rw [if_neg c26] at H
                    have c26b0 : (t322 == t319) = false := beq_eq_false_iff_ne.mpr c26
                    have c26b1 : (t322 != t319) = true := bne_iff_ne.mpr c26
                    obtain rfl := Option.some.inj H
                    go_wp2_with (first | ((with_reducible refine gate_callee (f := 28) rfl ?_); refine goesL_ (some 54) rfl rfl Try.func28 (by kernel_rfl) rfl #[.slice A0 l0.length c0, .int .i64 0, .int .i64 (l0.length : Int)] rfl (by (try simp only [List.map_toArray, List.map_cons, List.map_nil]); first | done | rfl | (simp only [List.length_drop, List.length_take]; rfl)) ?_; (with_reducible refine (leb_S32.calls kj4 _ _ l0 0 (l0.length : Int) t318 t319 t320 _ ?side1 ?side2 A18.out).mono ?_); (case side1 => repeat (first | exact (Kd.C_below HR0.out HB.out) | (with_reducible refine Kd.C_alloc ?_ _) | (with_reducible refine Kd.C_drewN ?_ _) | (with_reducible refine Kd.C_drew ?_))); (case side2 => exact HC0.out); rintro e w34 ⟨rfl, hb⟩; refine ⟨_, rfl, ?_⟩; have n0_ := Aside0.mk (below_step (by repeat (first | (with_reducible first | exact HB.out | apply below_alloc | apply pw_below_drewN | apply below_drew1) | exact HB.out)) hb); clear HB; have HB := n0_; clear n0_; (try clear hb); (try clear hb2); (try clear hk); (try clear hi)) | ((with_reducible refine gate_callee (f := 29) rfl ?_); refine goesL_ (some 64) rfl rfl Try.func29 (by kernel_rfl) rfl #[.slice A0 l0.length c0, .int .i64 0, .int .i64 (l0.length : Int)] rfl (by (try simp only [List.map_toArray, List.map_cons, List.map_nil]); first | done | rfl | (simp only [List.length_drop, List.length_take]; rfl)) ?_; (with_reducible refine (leb_S33.calls kj4 _ _ l0 0 (l0.length : Int) t321 t322 t323 _ ?side1 ?side2 A20.out).mono ?_); (case side1 => repeat (first | exact (Kd.C_below HR0.out HB.out) | (with_reducible refine Kd.C_alloc ?_ _) | (with_reducible refine Kd.C_drewN ?_ _) | (with_reducible refine Kd.C_drew ?_))); (case side2 => exact HC0.out); rintro e w35 ⟨rfl, hb⟩; refine ⟨_, rfl, ?_⟩; have n0_ := Aside0.mk (below_step (by repeat (first | (with_reducible first | exact HB.out | apply below_alloc | apply pw_below_drewN | apply below_drew1) | exact HB.out)) hb); clear HB; have HB := n0_; clear n0_; (try clear hb); (try clear hb2); (try clear hk); (try clear hi)) | ((with_reducible refine gate_callee (f := 30) rfl ?_); refine goesL_ (some 72) rfl rfl Try.func30 (by kernel_rfl) rfl #[.slice A0 l0.length c0, .int .i64 0, .int .i64 (l0.length : Int)] rfl (by (try simp only [List.map_toArray, List.map_cons, List.map_nil]); first | done | rfl | (simp only [List.length_drop, List.length_take]; rfl)) ?_; (with_reducible refine (leb_S64.calls kj4 _ _ l0 0 (l0.length : Int) t324 t325 t326 _ ?side1 ?side2 A21.out).mono ?_); (case side1 => repeat (first | exact (Kd.C_below HR0.out HB.out) | (with_reducible refine Kd.C_alloc ?_ _) | (with_reducible refine Kd.C_drewN ?_ _) | (with_reducible refine Kd.C_drew ?_))); (case side2 => exact HC0.out); rintro e w36 ⟨rfl, hb⟩; refine ⟨_, rfl, ?_⟩; have n0_ := Aside0.mk (below_step (by repeat (first | (with_reducible first | exact HB.out | apply below_alloc | apply pw_below_drewN | apply below_drew1) | exact HB.out)) hb); clear HB; have HB := n0_; clear n0_; (try clear hb); (try clear hb2); (try clear hk); (try clear hi)))
                    go_ret
                    exact ⟨by first | rfl | (simp [errW_none, errW_some] <;> rfl) | (simp [*, errW_none, errW_some] <;> rfl), by repeat (first | (with_reducible first | exact HB.out | apply below_alloc | apply pw_below_drewN | apply below_drew1) | exact HB.out)⟩
                · rw [if_neg c25] at H
                  have c25b0 : (t324 == t321) = false := beq_eq_false_iff_ne.mpr c25
                  have c25b1 : (t324 != t321) = true := bne_iff_ne.mpr c25
                  obtain rfl := Option.some.inj H
                  go_wp2_with (first | ((with_reducible refine gate_callee (f := 28) rfl ?_); refine goesL_ (some 54) rfl rfl Try.func28 (by kernel_rfl) rfl #[.slice A0 l0.length c0, .int .i64 0, .int .i64 (l0.length : Int)] rfl (by (try simp only [List.map_toArray, List.map_cons, List.map_nil]); first | done | rfl | (simp only [List.length_drop, List.length_take]; rfl)) ?_; (with_reducible refine (leb_S32.calls kj4 _ _ l0 0 (l0.length : Int) t318 t319 t320 _ ?side1 ?side2 A18.out).mono ?_); (case side1 => repeat (first | exact (Kd.C_below HR0.out HB.out) | (with_reducible refine Kd.C_alloc ?_ _) | (with_reducible refine Kd.C_drewN ?_ _) | (with_reducible refine Kd.C_drew ?_))); (case side2 => exact HC0.out); rintro e w37 ⟨rfl, hb⟩; refine ⟨_, rfl, ?_⟩; have n0_ := Aside0.mk (below_step (by repeat (first | (with_reducible first | exact HB.out | apply below_alloc | apply pw_below_drewN | apply below_drew1) | exact HB.out)) hb); clear HB; have HB := n0_; clear n0_; (try clear hb); (try clear hb2); (try clear hk); (try clear hi)) | ((with_reducible refine gate_callee (f := 29) rfl ?_); refine goesL_ (some 64) rfl rfl Try.func29 (by kernel_rfl) rfl #[.slice A0 l0.length c0, .int .i64 0, .int .i64 (l0.length : Int)] rfl (by (try simp only [List.map_toArray, List.map_cons, List.map_nil]); first | done | rfl | (simp only [List.length_drop, List.length_take]; rfl)) ?_; (with_reducible refine (leb_S33.calls kj4 _ _ l0 0 (l0.length : Int) t321 t322 t323 _ ?side1 ?side2 A20.out).mono ?_); (case side1 => repeat (first | exact (Kd.C_below HR0.out HB.out) | (with_reducible refine Kd.C_alloc ?_ _) | (with_reducible refine Kd.C_drewN ?_ _) | (with_reducible refine Kd.C_drew ?_))); (case side2 => exact HC0.out); rintro e w38 ⟨rfl, hb⟩; refine ⟨_, rfl, ?_⟩; have n0_ := Aside0.mk (below_step (by repeat (first | (with_reducible first | exact HB.out | apply below_alloc | apply pw_below_drewN | apply below_drew1) | exact HB.out)) hb); clear HB; have HB := n0_; clear n0_; (try clear hb); (try clear hb2); (try clear hk); (try clear hi)) | ((with_reducible refine gate_callee (f := 30) rfl ?_); refine goesL_ (some 72) rfl rfl Try.func30 (by kernel_rfl) rfl #[.slice A0 l0.length c0, .int .i64 0, .int .i64 (l0.length : Int)] rfl (by (try simp only [List.map_toArray, List.map_cons, List.map_nil]); first | done | rfl | (simp only [List.length_drop, List.length_take]; rfl)) ?_; (with_reducible refine (leb_S64.calls kj4 _ _ l0 0 (l0.length : Int) t324 t325 t326 _ ?side1 ?side2 A21.out).mono ?_); (case side1 => repeat (first | exact (Kd.C_below HR0.out HB.out) | (with_reducible refine Kd.C_alloc ?_ _) | (with_reducible refine Kd.C_drewN ?_ _) | (with_reducible refine Kd.C_drew ?_))); (case side2 => exact HC0.out); rintro e w39 ⟨rfl, hb⟩; refine ⟨_, rfl, ?_⟩; have n0_ := Aside0.mk (below_step (by repeat (first | (with_reducible first | exact HB.out | apply below_alloc | apply pw_below_drewN | apply below_drew1) | exact HB.out)) hb); clear HB; have HB := n0_; clear n0_; (try clear hb); (try clear hb2); (try clear hk); (try clear hi)))
                  go_ret
                  exact ⟨by first | rfl | (simp [errW_none, errW_some] <;> rfl) | (simp [*, errW_none, errW_some] <;> rfl), by repeat (first | (with_reducible first | exact HB.out | apply below_alloc | apply pw_below_drewN | apply below_drew1) | exact HB.out)⟩
              · rw [if_neg c24] at H
                have c24b0 : (t321 == (wrap64 (t318))) = false := beq_eq_false_iff_ne.mpr c24
                have c24b1 : (t321 != (wrap64 (t318))) = true := bne_iff_ne.mpr c24
                obtain rfl := Option.some.inj H
                go_wp2_with (first | ((with_reducible refine gate_callee (f := 28) rfl ?_); refine goesL_ (some 54) rfl rfl Try.func28 (by kernel_rfl) rfl #[.slice A0 l0.length c0, .int .i64 0, .int .i64 (l0.length : Int)] rfl (by (try simp only [List.map_toArray, List.map_cons, List.map_nil]); first | done | rfl | (simp only [List.length_drop, List.length_take]; rfl)) ?_; (with_reducible refine (leb_S32.calls kj4 _ _ l0 0 (l0.length : Int) t318 t319 t320 _ ?side1 ?side2 A18.out).mono ?_); (case side1 => repeat (first | exact (Kd.C_below HR0.out HB.out) | (with_reducible refine Kd.C_alloc ?_ _) | (with_reducible refine Kd.C_drewN ?_ _) | (with_reducible refine Kd.C_drew ?_))); (case side2 => exact HC0.out); rintro e w40 ⟨rfl, hb⟩; refine ⟨_, rfl, ?_⟩; have n0_ := Aside0.mk (below_step (by repeat (first | (with_reducible first | exact HB.out | apply below_alloc | apply pw_below_drewN | apply below_drew1) | exact HB.out)) hb); clear HB; have HB := n0_; clear n0_; (try clear hb); (try clear hb2); (try clear hk); (try clear hi)) | ((with_reducible refine gate_callee (f := 29) rfl ?_); refine goesL_ (some 64) rfl rfl Try.func29 (by kernel_rfl) rfl #[.slice A0 l0.length c0, .int .i64 0, .int .i64 (l0.length : Int)] rfl (by (try simp only [List.map_toArray, List.map_cons, List.map_nil]); first | done | rfl | (simp only [List.length_drop, List.length_take]; rfl)) ?_; (with_reducible refine (leb_S33.calls kj4 _ _ l0 0 (l0.length : Int) t321 t322 t323 _ ?side1 ?side2 A20.out).mono ?_); (case side1 => repeat (first | exact (Kd.C_below HR0.out HB.out) | (with_reducible refine Kd.C_alloc ?_ _) | (with_reducible refine Kd.C_drewN ?_ _) | (with_reducible refine Kd.C_drew ?_))); (case side2 => exact HC0.out); rintro e w41 ⟨rfl, hb⟩; refine ⟨_, rfl, ?_⟩; have n0_ := Aside0.mk (below_step (by repeat (first | (with_reducible first | exact HB.out | apply below_alloc | apply pw_below_drewN | apply below_drew1) | exact HB.out)) hb); clear HB; have HB := n0_; clear n0_; (try clear hb); (try clear hb2); (try clear hk); (try clear hi)) | ((with_reducible refine gate_callee (f := 30) rfl ?_); refine goesL_ (some 72) rfl rfl Try.func30 (by kernel_rfl) rfl #[.slice A0 l0.length c0, .int .i64 0, .int .i64 (l0.length : Int)] rfl (by (try simp only [List.map_toArray, List.map_cons, List.map_nil]); first | done | rfl | (simp only [List.length_drop, List.length_take]; rfl)) ?_; (with_reducible refine (leb_S64.calls kj4 _ _ l0 0 (l0.length : Int) t324 t325 t326 _ ?side1 ?side2 A21.out).mono ?_); (case side1 => repeat (first | exact (Kd.C_below HR0.out HB.out) | (with_reducible refine Kd.C_alloc ?_ _) | (with_reducible refine Kd.C_drewN ?_ _) | (with_reducible refine Kd.C_drew ?_))); (case side2 => exact HC0.out); rintro e w42 ⟨rfl, hb⟩; refine ⟨_, rfl, ?_⟩; have n0_ := Aside0.mk (below_step (by repeat (first | (with_reducible first | exact HB.out | apply below_alloc | apply pw_below_drewN | apply below_drew1) | exact HB.out)) hb); clear HB; have HB := n0_; clear n0_; (try clear hb); (try clear hb2); (try clear hk); (try clear hi)))
                go_ret
                exact ⟨by first | rfl | (simp [errW_none, errW_some] <;> rfl) | (simp [*, errW_none, errW_some] <;> rfl), by repeat (first | (with_reducible first | exact HB.out | apply below_alloc | apply pw_below_drewN | apply below_drew1) | exact HB.out)⟩
            · rw [if_neg c23] at H
              have c23b0 : (t326 == 0) = false := beq_eq_false_iff_ne.mpr c23
              have c23b1 : (t326 != 0) = true := bne_iff_ne.mpr c23
              obtain rfl := Option.some.inj H
              go_wp2_with (first | ((with_reducible refine gate_callee (f := 28) rfl ?_); refine goesL_ (some 54) rfl rfl Try.func28 (by kernel_rfl) rfl #[.slice A0 l0.length c0, .int .i64 0, .int .i64 (l0.length : Int)] rfl (by (try simp only [List.map_toArray, List.map_cons, List.map_nil]); first | done | rfl | (simp only [List.length_drop, List.length_take]; rfl)) ?_; (with_reducible refine (leb_S32.calls kj4 _ _ l0 0 (l0.length : Int) t318 t319 t320 _ ?side1 ?side2 A18.out).mono ?_); (case side1 => repeat (first | exact (Kd.C_below HR0.out HB.out) | (with_reducible refine Kd.C_alloc ?_ _) | (with_reducible refine Kd.C_drewN ?_ _) | (with_reducible refine Kd.C_drew ?_))); (case side2 => exact HC0.out); rintro e w43 ⟨rfl, hb⟩; refine ⟨_, rfl, ?_⟩; have n0_ := Aside0.mk (below_step (by repeat (first | (with_reducible first | exact HB.out | apply below_alloc | apply pw_below_drewN | apply below_drew1) | exact HB.out)) hb); clear HB; have HB := n0_; clear n0_; (try clear hb); (try clear hb2); (try clear hk); (try clear hi)) | ((with_reducible refine gate_callee (f := 29) rfl ?_); refine goesL_ (some 64) rfl rfl Try.func29 (by kernel_rfl) rfl #[.slice A0 l0.length c0, .int .i64 0, .int .i64 (l0.length : Int)] rfl (by (try simp only [List.map_toArray, List.map_cons, List.map_nil]); first | done | rfl | (simp only [List.length_drop, List.length_take]; rfl)) ?_; (with_reducible refine (leb_S33.calls kj4 _ _ l0 0 (l0.length : Int) t321 t322 t323 _ ?side1 ?side2 A20.out).mono ?_); (case side1 => repeat (first | exact (Kd.C_below HR0.out HB.out) | (with_reducible refine Kd.C_alloc ?_ _) | (with_reducible refine Kd.C_drewN ?_ _) | (with_reducible refine Kd.C_drew ?_))); (case side2 => exact HC0.out); rintro e w44 ⟨rfl, hb⟩; refine ⟨_, rfl, ?_⟩; have n0_ := Aside0.mk (below_step (by repeat (first | (with_reducible first | exact HB.out | apply below_alloc | apply pw_below_drewN | apply below_drew1) | exact HB.out)) hb); clear HB; have HB := n0_; clear n0_; (try clear hb); (try clear hb2); (try clear hk); (try clear hi)) | ((with_reducible refine gate_callee (f := 30) rfl ?_); refine goesL_ (some 72) rfl rfl Try.func30 (by kernel_rfl) rfl #[.slice A0 l0.length c0, .int .i64 0, .int .i64 (l0.length : Int)] rfl (by (try simp only [List.map_toArray, List.map_cons, List.map_nil]); first | done | rfl | (simp only [List.length_drop, List.length_take]; rfl)) ?_; (with_reducible refine (leb_S64.calls kj4 _ _ l0 0 (l0.length : Int) t324 t325 t326 _ ?side1 ?side2 A21.out).mono ?_); (case side1 => repeat (first | exact (Kd.C_below HR0.out HB.out) | (with_reducible refine Kd.C_alloc ?_ _) | (with_reducible refine Kd.C_drewN ?_ _) | (with_reducible refine Kd.C_drew ?_))); (case side2 => exact HC0.out); rintro e w45 ⟨rfl, hb⟩; refine ⟨_, rfl, ?_⟩; have n0_ := Aside0.mk (below_step (by repeat (first | (with_reducible first | exact HB.out | apply below_alloc | apply pw_below_drewN | apply below_drew1) | exact HB.out)) hb); clear HB; have HB := n0_; clear n0_; (try clear hb); (try clear hb2); (try clear hk); (try clear hi)))
              go_ret
              exact ⟨by first | rfl | (simp [errW_none, errW_some] <;> rfl) | (simp [*, errW_none, errW_some] <;> rfl), by repeat (first | (with_reducible first | exact HB.out | apply below_alloc | apply pw_below_drewN | apply below_drew1) | exact HB.out)⟩
          · rw [if_neg c22] at H
            have c22b0 : (t323 == 0) = false := beq_eq_false_iff_ne.mpr c22
            have c22b1 : (t323 != 0) = true := bne_iff_ne.mpr c22
            obtain rfl := Option.some.inj H
            go_wp2_with (first | ((with_reducible refine gate_callee (f := 28) rfl ?_); refine goesL_ (some 54) rfl rfl Try.func28 (by kernel_rfl) rfl #[.slice A0 l0.length c0, .int .i64 0, .int .i64 (l0.length : Int)] rfl (by (try simp only [List.map_toArray, List.map_cons, List.map_nil]); first | done | rfl | (simp only [List.length_drop, List.length_take]; rfl)) ?_; (with_reducible refine (leb_S32.calls kj4 _ _ l0 0 (l0.length : Int) t318 t319 t320 _ ?side1 ?side2 A18.out).mono ?_); (case side1 => repeat (first | exact (Kd.C_below HR0.out HB.out) | (with_reducible refine Kd.C_alloc ?_ _) | (with_reducible refine Kd.C_drewN ?_ _) | (with_reducible refine Kd.C_drew ?_))); (case side2 => exact HC0.out); rintro e w46 ⟨rfl, hb⟩; refine ⟨_, rfl, ?_⟩; have n0_ := Aside0.mk (below_step (by repeat (first | (with_reducible first | exact HB.out | apply below_alloc | apply pw_below_drewN | apply below_drew1) | exact HB.out)) hb); clear HB; have HB := n0_; clear n0_; (try clear hb); (try clear hb2); (try clear hk); (try clear hi)) | ((with_reducible refine gate_callee (f := 29) rfl ?_); refine goesL_ (some 64) rfl rfl Try.func29 (by kernel_rfl) rfl #[.slice A0 l0.length c0, .int .i64 0, .int .i64 (l0.length : Int)] rfl (by (try simp only [List.map_toArray, List.map_cons, List.map_nil]); first | done | rfl | (simp only [List.length_drop, List.length_take]; rfl)) ?_; (with_reducible refine (leb_S33.calls kj4 _ _ l0 0 (l0.length : Int) t321 t322 t323 _ ?side1 ?side2 A20.out).mono ?_); (case side1 => repeat (first | exact (Kd.C_below HR0.out HB.out) | (with_reducible refine Kd.C_alloc ?_ _) | (with_reducible refine Kd.C_drewN ?_ _) | (with_reducible refine Kd.C_drew ?_))); (case side2 => exact HC0.out); rintro e w47 ⟨rfl, hb⟩; refine ⟨_, rfl, ?_⟩; have n0_ := Aside0.mk (below_step (by repeat (first | (with_reducible first | exact HB.out | apply below_alloc | apply pw_below_drewN | apply below_drew1) | exact HB.out)) hb); clear HB; have HB := n0_; clear n0_; (try clear hb); (try clear hb2); (try clear hk); (try clear hi)) | ((with_reducible refine gate_callee (f := 30) rfl ?_); refine goesL_ (some 72) rfl rfl Try.func30 (by kernel_rfl) rfl #[.slice A0 l0.length c0, .int .i64 0, .int .i64 (l0.length : Int)] rfl (by (try simp only [List.map_toArray, List.map_cons, List.map_nil]); first | done | rfl | (simp only [List.length_drop, List.length_take]; rfl)) ?_; (with_reducible refine (leb_S64.calls kj4 _ _ l0 0 (l0.length : Int) t324 t325 t326 _ ?side1 ?side2 A21.out).mono ?_); (case side1 => repeat (first | exact (Kd.C_below HR0.out HB.out) | (with_reducible refine Kd.C_alloc ?_ _) | (with_reducible refine Kd.C_drewN ?_ _) | (with_reducible refine Kd.C_drew ?_))); (case side2 => exact HC0.out); rintro e w48 ⟨rfl, hb⟩; refine ⟨_, rfl, ?_⟩; have n0_ := Aside0.mk (below_step (by repeat (first | (with_reducible first | exact HB.out | apply below_alloc | apply pw_below_drewN | apply below_drew1) | exact HB.out)) hb); clear HB; have HB := n0_; clear n0_; (try clear hb); (try clear hb2); (try clear hk); (try clear hi)))
            go_ret
            exact ⟨by first | rfl | (simp [errW_none, errW_some] <;> rfl) | (simp [*, errW_none, errW_some] <;> rfl), by repeat (first | (with_reducible first | exact HB.out | apply below_alloc | apply pw_below_drewN | apply below_drew1) | exact HB.out)⟩
        · rw [if_neg c19] at H
          have c19b0 : (t320 == 0) = false := beq_eq_false_iff_ne.mpr c19
          have c19b1 : (t320 != 0) = true := bne_iff_ne.mpr c19
          obtain rfl := Option.some.inj H
          go_wp2_with (first | ((with_reducible refine gate_callee (f := 28) rfl ?_); refine goesL_ (some 54) rfl rfl Try.func28 (by kernel_rfl) rfl #[.slice A0 l0.length c0, .int .i64 0, .int .i64 (l0.length : Int)] rfl (by (try simp only [List.map_toArray, List.map_cons, List.map_nil]); first | done | rfl | (simp only [List.length_drop, List.length_take]; rfl)) ?_; (with_reducible refine (leb_S32.calls kj4 _ _ l0 0 (l0.length : Int) t318 t319 t320 _ ?side1 ?side2 A18.out).mono ?_); (case side1 => repeat (first | exact (Kd.C_below HR0.out HB.out) | (with_reducible refine Kd.C_alloc ?_ _) | (with_reducible refine Kd.C_drewN ?_ _) | (with_reducible refine Kd.C_drew ?_))); (case side2 => exact HC0.out); rintro e w49 ⟨rfl, hb⟩; refine ⟨_, rfl, ?_⟩; have n0_ := Aside0.mk (below_step (by repeat (first | (with_reducible first | exact HB.out | apply below_alloc | apply pw_below_drewN | apply below_drew1) | exact HB.out)) hb); clear HB; have HB := n0_; clear n0_; (try clear hb); (try clear hb2); (try clear hk); (try clear hi)))
          go_ret
          exact ⟨by first | rfl | (simp [errW_none, errW_some] <;> rfl) | (simp [*, errW_none, errW_some] <;> rfl), by repeat (first | (with_reducible first | exact HB.out | apply below_alloc | apply pw_below_drewN | apply below_drew1) | exact HB.out)⟩
  · rw [if_neg c3] at H
    have c3b0 : ((t309.length : Int) == 1) = false := beq_eq_false_iff_ne.mpr c3
    have c3b1 : ((t309.length : Int) != 1) = true := bne_iff_ne.mpr c3
    obtain rfl := Option.some.inj H
    go_enter Try.func5, Try.ntmps5
    go_wp2_with (first | ((with_reducible refine gate_callee (f := 13) rfl ?_); refine goesL_ (some 16) rfl rfl Try.func13 (by kernel_rfl) rfl #[.int .u64 0] rfl (by (try simp only [List.map_toArray, List.map_cons, List.map_nil]); first | done | rfl | (simp only [List.length_drop, List.length_take]; rfl)) ?_; (with_reducible refine (leb_PutU.calls k 0 t309 _ A2.out).mono ?_); rintro e w50 ⟨v310, rfl, ho0, hb⟩; refine ⟨_, rfl, ?_⟩; have n0_ := Aside0.mk (Kd.R_lower ho0 (below_size (by repeat (first | (with_reducible first | exact HB.out | apply below_alloc | apply pw_below_drewN | apply below_drew1) | exact HB.out)))); have n1_ := Aside0.mk (below_step (by repeat (first | (with_reducible first | exact HB.out | apply below_alloc | apply pw_below_drewN | apply below_drew1) | exact HB.out)) hb); clear HB; have HO311 := n0_; have HB := n1_; clear n0_ n1_; (try clear hb); (try clear hb2); (try clear hk); (try clear hi); (try clear ho0); obtain ⟨Ao51, co51, eo51⟩ := Kd.R_slice HO311.out; subst eo51))
    go_ret
    exact ⟨by first | rfl | (simp [errW_none, errW_some] <;> rfl) | (simp [*, errW_none, errW_some] <;> rfl), by repeat (first | (with_reducible first | exact HB.out | apply below_alloc | apply pw_below_drewN | apply below_drew1) | exact HB.out)⟩

/-- THE ONE PURE STATEMENT of ratchetlaw01_LebWider: yours. -/
def ratchetlaw01_LebWider.Pure : Prop := ∀ (l0 : List Int), l0.length ≤ maxLen → l0.length * 1 ≤ 140737488351232 → (∀ x ∈ l0, (Lit.int .u8 x).wf = true) → ∃ k, ratchetlaw01_LebWider.f k l0 = some true
theorem ratchetlaw01_LebWider.walk (P : ratchetlaw01_LebWider.Pure) (a0 : Option Addr) (len0 cap0 : Nat) (z0 : List Int) (w : World) (w0 : (a0 = none ∧ len0 = 0 ∧ cap0 = 0 ∧ z0 = []) ∨ ∃ x, a0 = some x ∧ len0 ≤ cap0 ∧ cap0 ≤ maxLen ∧ z0.length = cap0 ∧ (∀ i, i < z0.length → w.cell? (x.add i) = some (.int .u8 (z0.getD i 0))) ∧ ∀ n ∈ z0, (Lit.int .u8 n).wf = true) (y0 : len0 * 1 ≤ 140737488351232) :
    Calls Try.prog 5 #[.slice a0 len0 cap0] w fun e w' => e = .returned (.bool true) ∧ Below w.heap.size w w' := by
  obtain ⟨l0, rfl, hr0, hm0, hw0, hc0⟩ := ReadsInt.ofRowC w0
  obtain ⟨k, h⟩ := P l0 hm0 y0 hw0
  refine (ratchetlaw01_LebWider.calls k _ _ l0 true w (Kd.C_of_reads (d := (0 : Int)) (h1 := fun _ => rfl) hr0) hc0 h).mono ?_
  rintro e w' ⟨rfl, hd⟩
  exact ⟨rfl, hd⟩

/-! ### ratchetref01_reads: function 67 -/
def ratchetref01_reads.f (l0 : List Int) (a1 : Int) (a2 : Int) : Option (Bool) := if a1 ≥ 0 then (if a2 ≤ (l0.length : Int) then (some (decide (a1 ≤ a2))) else (some false)) else (some false)
set_option maxHeartbeats 8000000 in
set_option maxRecDepth 100000 in
theorem ratchetref01_reads.calls (A0 : Option Addr) (c0 : Nat) (l0 : List Int) (a1 : Int) (a2 : Int) (r : Bool) (w : World) (hr0 : Kd.C (Kd.int .u8) w A0 l0.length l0) (hc0 : l0.length ≤ c0) (h : ratchetref01_reads.f l0 a1 a2 = some r) :
    Calls Try.prog 67 #[.slice A0 l0.length c0, .int .i64 a1, .int .i64 a2] w fun e w' => e = .returned (.bool r) ∧ Drawn0 w w' := by
  have HR0 := Aside0.mk hr0
  have HC0 := Aside0.mk hc0
  clear hr0 hc0
  have H : (if a1 ≥ 0 then (if a2 ≤ (l0.length : Int) then (some (decide (a1 ≤ a2))) else (some false)) else (some false)) = some r := h
  clear h
  by_cases c4 : a1 ≥ 0
  · rw [if_pos c4] at H
    have c4b0 : decide (0 ≤ a1) = true := decide_eq_true c4
    clear c4
    by_cases c5 : a2 ≤ (l0.length : Int)
    · rw [if_pos c5] at H
      have c5b0 : decide (a2 ≤ (l0.length : Int)) = true := decide_eq_true c5
      clear c5
      obtain rfl := Option.some.inj H
      go_enter Try.func67, Try.ntmps67
      go_wp2
      go_ret
      exact ⟨by first | rfl | (simp; done) | (simp [*]; done), by repeat (first | exact Drawn0.refl _ | apply Drawn0.step)⟩
    · rw [if_neg c5] at H
      have c5b0 : decide (a2 ≤ (l0.length : Int)) = false := decide_eq_false c5
      clear c5
      obtain rfl := Option.some.inj H
      go_enter Try.func67, Try.ntmps67
      go_wp2
      go_ret
      exact ⟨by first | rfl | (simp; done) | (simp [*]; done), by repeat (first | exact Drawn0.refl _ | apply Drawn0.step)⟩
  · rw [if_neg c4] at H
    have c4b0 : decide (0 ≤ a1) = false := decide_eq_false c4
    clear c4
    obtain rfl := Option.some.inj H
    go_enter Try.func67, Try.ntmps67
    go_wp2
    go_ret
    exact ⟨by first | rfl | (simp; done) | (simp [*]; done), by repeat (first | exact Drawn0.refl _ | apply Drawn0.step)⟩

/-! ### ratchetref01_last: function 68 -/
def ratchetref01_last.f (a0 : Int) (a1 : Int) (a2 : Int) (a3 : Bool) : Option (Bool) := if a0 ≥ 128 then (some false) else (if 0 ≤ (IntKind.u64.wrap (wrap64 (a1 - (wrap64 (7 * a2))))) then (if a3 = true then (if 0 ≤ (IntKind.u64.wrap (wrap64 ((wrap64 (a1 - (wrap64 (7 * a2)))) - 1))) then (if (shr .i64 (wrap64 (a0)) (IntKind.u64.wrap (wrap64 ((wrap64 (a1 - (wrap64 (7 * a2)))) - 1)))) = 0 then (some true) else (if 0 ≤ (IntKind.u64.wrap (wrap64 (8 - (wrap64 (a1 - (wrap64 (7 * a2))))))) then (some ((shr .i64 (wrap64 (a0)) (IntKind.u64.wrap (wrap64 ((wrap64 (a1 - (wrap64 (7 * a2)))) - 1)))) == (wrap64 ((shl .i64 1 (IntKind.u64.wrap (wrap64 (8 - (wrap64 (a1 - (wrap64 (7 * a2)))))))) - 1)))) else (none))) else (none)) else (some ((shr .i64 (wrap64 (a0)) (IntKind.u64.wrap (wrap64 (a1 - (wrap64 (7 * a2)))))) == 0))) else (none))
set_option maxHeartbeats 8000000 in
set_option maxRecDepth 100000 in
theorem ratchetref01_last.calls (a0 : Int) (a1 : Int) (a2 : Int) (a3 : Bool) (r : Bool) (w : World) (h : ratchetref01_last.f a0 a1 a2 a3 = some r) :
    Calls Try.prog 68 #[.int .u8 a0, .int .i64 a1, .int .i64 a2, .bool a3] w fun e w' => e = .returned (.bool r) ∧ Drawn0 w w' := by
  have H : (if a0 ≥ 128 then (some false) else (if 0 ≤ (IntKind.u64.wrap (wrap64 (a1 - (wrap64 (7 * a2))))) then (if a3 = true then (if 0 ≤ (IntKind.u64.wrap (wrap64 ((wrap64 (a1 - (wrap64 (7 * a2)))) - 1))) then (if (shr .i64 (wrap64 (a0)) (IntKind.u64.wrap (wrap64 ((wrap64 (a1 - (wrap64 (7 * a2)))) - 1)))) = 0 then (some true) else (if 0 ≤ (IntKind.u64.wrap (wrap64 (8 - (wrap64 (a1 - (wrap64 (7 * a2))))))) then (some ((shr .i64 (wrap64 (a0)) (IntKind.u64.wrap (wrap64 ((wrap64 (a1 - (wrap64 (7 * a2)))) - 1)))) == (wrap64 ((shl .i64 1 (IntKind.u64.wrap (wrap64 (8 - (wrap64 (a1 - (wrap64 (7 * a2)))))))) - 1)))) else (none))) else (none)) else (some ((shr .i64 (wrap64 (a0)) (IntKind.u64.wrap (wrap64 (a1 - (wrap64 (7 * a2)))))) == 0))) else (none))) = some r := h
  clear h
  by_cases c5 : a0 ≥ 128
  · rw [if_pos c5] at H
    have c5b0 : decide (128 ≤ a0) = true := decide_eq_true c5
    clear c5
    obtain rfl := Option.some.inj H
    go_enter Try.func68, Try.ntmps68
    go_wp2
    go_ret
    exact ⟨by first | rfl | (simp; done) | (simp [*]; done), by repeat (first | exact Drawn0.refl _ | apply Drawn0.step)⟩
  · rw [if_neg c5] at H
    have c5b0 : decide (128 ≤ a0) = false := decide_eq_false c5
    clear c5
    obtain ⟨ji6, hji6⟩ : ∃ j_ : Int, (IntKind.u64.wrap (wrap64 (a1 - (wrap64 (7 * a2))))) = j_ := ⟨_, rfl⟩
    replace H : (if 0 ≤ (ji6) then (if a3 = true then (if 0 ≤ (IntKind.u64.wrap (wrap64 ((wrap64 (a1 - (wrap64 (7 * a2)))) - 1))) then (if (shr .i64 (wrap64 (a0)) (IntKind.u64.wrap (wrap64 ((wrap64 (a1 - (wrap64 (7 * a2)))) - 1)))) = 0 then (some true) else (if 0 ≤ (IntKind.u64.wrap (wrap64 (8 - (wrap64 (a1 - (wrap64 (7 * a2))))))) then (some ((shr .i64 (wrap64 (a0)) (IntKind.u64.wrap (wrap64 ((wrap64 (a1 - (wrap64 (7 * a2)))) - 1)))) == (wrap64 ((shl .i64 1 (IntKind.u64.wrap (wrap64 (8 - (wrap64 (a1 - (wrap64 (7 * a2)))))))) - 1)))) else (none))) else (none)) else (some ((shr .i64 (wrap64 (a0)) (ji6)) == 0))) else (none)) = some r := by first | (rw [hji6] at H; exact H) | (simp only [hji6] at H ⊢; exact H)
    by_cases c7 : 0 ≤ (ji6)
    · rw [if_pos c7] at H
      have c7b0 := eq_true c7
      have c7b1 : decide (0 ≤ (ji6)) = true := decide_eq_true c7
      clear c7
      obtain ⟨ji8, hji8⟩ : ∃ j_ : Int, (shr .i64 (wrap64 (a0)) (ji6)) = j_ := ⟨_, rfl⟩
      replace H : (if a3 = true then (if 0 ≤ (IntKind.u64.wrap (wrap64 ((wrap64 (a1 - (wrap64 (7 * a2)))) - 1))) then (if (shr .i64 (wrap64 (a0)) (IntKind.u64.wrap (wrap64 ((wrap64 (a1 - (wrap64 (7 * a2)))) - 1)))) = 0 then (some true) else (if 0 ≤ (IntKind.u64.wrap (wrap64 (8 - (wrap64 (a1 - (wrap64 (7 * a2))))))) then (some ((shr .i64 (wrap64 (a0)) (IntKind.u64.wrap (wrap64 ((wrap64 (a1 - (wrap64 (7 * a2)))) - 1)))) == (wrap64 ((shl .i64 1 (IntKind.u64.wrap (wrap64 (8 - (wrap64 (a1 - (wrap64 (7 * a2)))))))) - 1)))) else (none))) else (none)) else (some ((ji8) == 0))) = some r := by first | (rw [hji8] at H; exact H) | (simp only [hji8] at H ⊢; exact H)
      have hji8_ : ((wrap64 (a0)) / 2 ^ min (ji6).toNat 64) = ji8 := hji8
      have hji8z : (ji6) ≤ 64 → ((wrap64 (a0)) / 2 ^ (ji6).toNat) = ji8 := shr_small hji8
      by_cases c9 : a3 = true
      · subst c9
        have H1 : (if 0 ≤ (IntKind.u64.wrap (wrap64 ((wrap64 (a1 - (wrap64 (7 * a2)))) - 1))) then (if (shr .i64 (wrap64 (a0)) (IntKind.u64.wrap (wrap64 ((wrap64 (a1 - (wrap64 (7 * a2)))) - 1)))) = 0 then (some true) else (if 0 ≤ (IntKind.u64.wrap (wrap64 (8 - (wrap64 (a1 - (wrap64 (7 * a2))))))) then (some ((shr .i64 (wrap64 (a0)) (IntKind.u64.wrap (wrap64 ((wrap64 (a1 - (wrap64 (7 * a2)))) - 1)))) == (wrap64 ((shl .i64 1 (IntKind.u64.wrap (wrap64 (8 - (wrap64 (a1 - (wrap64 (7 * a2)))))))) - 1)))) else (none))) else (none)) = some r := by rw [if_pos rfl] at H; exact H
        clear H
        have H := H1
        clear H1
        obtain ⟨ji10, hji10⟩ : ∃ j_ : Int, (IntKind.u64.wrap (wrap64 ((wrap64 (a1 - (wrap64 (7 * a2)))) - 1))) = j_ := ⟨_, rfl⟩
        replace H : (if 0 ≤ (ji10) then (if (shr .i64 (wrap64 (a0)) (ji10)) = 0 then (some true) else (if 0 ≤ (IntKind.u64.wrap (wrap64 (8 - (wrap64 (a1 - (wrap64 (7 * a2))))))) then (some ((shr .i64 (wrap64 (a0)) (ji10)) == (wrap64 ((shl .i64 1 (IntKind.u64.wrap (wrap64 (8 - (wrap64 (a1 - (wrap64 (7 * a2)))))))) - 1)))) else (none))) else (none)) = some r := by first | (rw [hji10] at H; exact H) | (simp only [hji10] at H ⊢; exact H)
        by_cases c11 : 0 ≤ (ji10)
        · rw [if_pos c11] at H
          have c11b0 := eq_true c11
          have c11b1 : decide (0 ≤ (ji10)) = true := decide_eq_true c11
          clear c11
          obtain ⟨ji12, hji12⟩ : ∃ j_ : Int, (shr .i64 (wrap64 (a0)) (ji10)) = j_ := ⟨_, rfl⟩
          replace H : (if (ji12) = 0 then (some true) else (if 0 ≤ (IntKind.u64.wrap (wrap64 (8 - (wrap64 (a1 - (wrap64 (7 * a2))))))) then (some ((ji12) == (wrap64 ((shl .i64 1 (IntKind.u64.wrap (wrap64 (8 - (wrap64 (a1 - (wrap64 (7 * a2)))))))) - 1)))) else (none))) = some r := by first | (rw [hji12] at H; exact H) | (simp only [hji12] at H ⊢; exact H)
          have hji12_ : ((wrap64 (a0)) / 2 ^ min (ji10).toNat 64) = ji12 := hji12
          have hji12z : (ji10) ≤ 64 → ((wrap64 (a0)) / 2 ^ (ji10).toNat) = ji12 := shr_small hji12
          by_cases c13 : (ji12) = 0
          · rw [if_pos c13] at H
            have c13b0 : ((ji12) == 0) = true := beq_iff_eq.mpr c13
            have c13b1 : ((ji12) != 0) = false := bne_eq_false_iff_eq.mpr c13
            clear c13
            obtain rfl := Option.some.inj H
            go_enter Try.func68, Try.ntmps68
            go_wp2
            go_ret
            exact ⟨by first | rfl | (simp; done) | (simp only [← hji6, ← hji8, ← hji10, ← hji12] <;> (first | rfl | simp)) | (simp [*]; done), by repeat (first | exact Drawn0.refl _ | apply Drawn0.step)⟩
          · rw [if_neg c13] at H
            have c13b0 : ((ji12) == 0) = false := beq_eq_false_iff_ne.mpr c13
            have c13b1 : ((ji12) != 0) = true := bne_iff_ne.mpr c13
            obtain ⟨ji14, hji14⟩ : ∃ j_ : Int, (IntKind.u64.wrap (wrap64 (8 - (wrap64 (a1 - (wrap64 (7 * a2))))))) = j_ := ⟨_, rfl⟩
            replace H : (if 0 ≤ (ji14) then (some ((ji12) == (wrap64 ((shl .i64 1 (ji14)) - 1)))) else (none)) = some r := by first | (rw [hji14] at H; exact H) | (simp only [hji14] at H ⊢; exact H)
            by_cases c15 : 0 ≤ (ji14)
            · rw [if_pos c15] at H
              have c15b0 := eq_true c15
              have c15b1 : decide (0 ≤ (ji14)) = true := decide_eq_true c15
              clear c15
              obtain ⟨ji16, hji16⟩ : ∃ j_ : Int, (shl .i64 1 (ji14)) = j_ := ⟨_, rfl⟩
              replace H : (some ((ji12) == (wrap64 ((ji16) - 1)))) = some r := by first | (rw [hji16] at H; exact H) | (simp only [hji16] at H ⊢; exact H)
              have hji16_ : (IntKind.i64.wrap (1 * 2 ^ min (ji14).toNat 64)) = ji16 := hji16
              have hji16z : (ji14) ≤ 64 → (IntKind.i64.wrap (1 * 2 ^ (ji14).toNat)) = ji16 := shl_small hji16
              have hji16u : (IntKind.i64.wrap (2 ^ min (ji14).toNat 64)) = ji16 := by have h_ := hji16_; rw [Int.one_mul] at h_; exact h_
              have hji16v : (ji14) ≤ 64 → (IntKind.i64.wrap (2 ^ (ji14).toNat)) = ji16 := fun hle_ => by have h_ := hji16z hle_; rw [Int.one_mul] at h_; exact h_
              have hji16y : (wrap64 (1 * 2 ^ min (ji14).toNat 64)) = ji16 := (i64_w _).symm.trans hji16_
              have hji16x : (ji14) ≤ 64 → (wrap64 (1 * 2 ^ (ji14).toNat)) = ji16 := fun h_ => (i64_w _).symm.trans (hji16z h_)
              obtain rfl := Option.some.inj H
              go_enter Try.func68, Try.ntmps68
              go_wp2
              go_ret
              exact ⟨by first | rfl | (simp; done) | (simp only [← hji6, ← hji8, ← hji10, ← hji12, ← hji14, ← hji16] <;> (first | rfl | simp)) | (simp [*]; done), by repeat (first | exact Drawn0.refl _ | apply Drawn0.step)⟩
            · rw [if_neg c15] at H
              exact absurd H (by simp)
        · rw [if_neg c11] at H
          exact absurd H (by simp)
      · replace c9 := Bool.eq_false_iff.mpr c9
        subst c9
        have H1 : (some ((ji8) == 0)) = some r := by rw [if_neg (show ¬ (false = true) by decide)] at H; exact H
        clear H
        have H := H1
        clear H1
        obtain rfl := Option.some.inj H
        go_enter Try.func68, Try.ntmps68
        go_wp2
        go_ret
        exact ⟨by first | rfl | (simp; done) | (simp only [← hji6, ← hji8] <;> (first | rfl | simp)) | (simp [*]; done), by repeat (first | exact Drawn0.refl _ | apply Drawn0.step)⟩
    · rw [if_neg c7] at H
      exact absurd H (by simp)

/-! ### ratchetref01_Number: function 34 -/
mutual
def ratchetref01_Number.l0 : Nat → List Int → Int → Int → Int → Bool → Int → Int → Int → Option (Int × Int × Int)
  | 0, _, _, _, _, _, _, _, _ => none
  | k + 1, x0, x1, x2, x3, x4, x13, x14, x15 => if x15 < x13 then (if (wrap64 (x1 + x15)) ≥ x2 then (some (0, x2, 3)) else (if 0 ≤ (wrap64 (x1 + x15)) then (if (wrap64 (x1 + x15)) < (x0.length : Int) then (if x15 = (wrap64 (x13 - 1)) then ((ratchetref01_last.f (rd x0 (wrap64 (x1 + x15))) x3 x15 x4).bind fun t329 => (ratchetref01_Number.j1 k x0 x1 x2 x3 x4 x13 x14 x15 (rd x0 (wrap64 (x1 + x15))) (!t329))) else (ratchetref01_Number.j1 k x0 x1 x2 x3 x4 x13 x14 x15 (rd x0 (wrap64 (x1 + x15))) false)) else (none)) else (none))) else (some (0, 0, 4))
def ratchetref01_Number.j1 : Nat → List Int → Int → Int → Int → Bool → Int → Int → Int → Int → Bool → Option (Int × Int × Int)
  | 0, _, _, _, _, _, _, _, _, _, _ => none
  | k + 1, x0, x1, x2, x3, x4, x13, x14, x15, x16, x53 => if x53 = true then (some (0, wrap64 (x1 + x15), 4)) else (if 0 ≤ (IntKind.u64.wrap (wrap64 (7 * x15))) then (if x16 < 128 then (if x4 = true then (if x16 ≥ 64 then (if (wrap64 ((wrap64 (7 * x15)) + 7)) < 64 then (if 0 ≤ (IntKind.u64.wrap (wrap64 ((wrap64 (7 * x15)) + 7))) then (some (IntKind.u64.wrap ((IntKind.u64.wrap (x14 + (shl .u64 (IntKind.u64.wrap (Int.tmod x16 128)) (IntKind.u64.wrap (wrap64 (7 * x15)))))) - (shl .u64 1 (IntKind.u64.wrap (wrap64 ((wrap64 (7 * x15)) + 7))))), wrap64 ((wrap64 (x1 + x15)) + 1), 0)) else (none)) else (some (IntKind.u64.wrap (x14 + (shl .u64 (IntKind.u64.wrap (Int.tmod x16 128)) (IntKind.u64.wrap (wrap64 (7 * x15))))), wrap64 ((wrap64 (x1 + x15)) + 1), 0))) else (some (IntKind.u64.wrap (x14 + (shl .u64 (IntKind.u64.wrap (Int.tmod x16 128)) (IntKind.u64.wrap (wrap64 (7 * x15))))), wrap64 ((wrap64 (x1 + x15)) + 1), 0))) else (some (IntKind.u64.wrap (x14 + (shl .u64 (IntKind.u64.wrap (Int.tmod x16 128)) (IntKind.u64.wrap (wrap64 (7 * x15))))), wrap64 ((wrap64 (x1 + x15)) + 1), 0))) else (ratchetref01_Number.l0 k x0 x1 x2 x3 x4 x13 (IntKind.u64.wrap (x14 + (shl .u64 (IntKind.u64.wrap (Int.tmod x16 128)) (IntKind.u64.wrap (wrap64 (7 * x15)))))) (wrap64 (x15 + 1)))) else (none))
end
def ratchetref01_Number.f (k : Nat) (l0 : List Int) (a1 : Int) (a2 : Int) (a3 : Int) (a4 : Bool) : Option (Int × Int × Int) := (ratchetref01_reads.f l0 a1 a2).bind fun t327 => (if t327 = true then (ratchetref01_Number.l0 k l0 a1 a2 a3 a4 (wrap64 (Int.tdiv (wrap64 (a3 + 6)) 7)) 0 0) else (some (0, 0, 1)))
theorem ratchetref01_Number.mono_l : ∀ k, (∀ y0 y1 y2 y3 y4 y5 y6 y7, LeO (ratchetref01_Number.l0 k y0 y1 y2 y3 y4 y5 y6 y7) (ratchetref01_Number.l0 (k + 1) y0 y1 y2 y3 y4 y5 y6 y7)) ∧ (∀ y0 y1 y2 y3 y4 y5 y6 y7 y8 y9, LeO (ratchetref01_Number.j1 k y0 y1 y2 y3 y4 y5 y6 y7 y8 y9) (ratchetref01_Number.j1 (k + 1) y0 y1 y2 y3 y4 y5 y6 y7 y8 y9))
  | 0 => ⟨fun _ _ _ _ _ _ _ _ r h => by simp [ratchetref01_Number.l0] at h, fun _ _ _ _ _ _ _ _ _ _ r h => by simp [ratchetref01_Number.j1] at h⟩
  | k + 1 => by
    obtain ⟨ih0, ih1⟩ := ratchetref01_Number.mono_l k
    refine ⟨?_, ?_⟩
    · intro y0 y1 y2 y3 y4 y5 y6 y7
      unfold ratchetref01_Number.l0
      repeat' first
      | (with_reducible exact ih0 _ _ _ _ _ _ _ _)
      | (with_reducible exact ih1 _ _ _ _ _ _ _ _ _ _)
      | (with_reducible exact LeO.refl _)
      | (with_reducible exact LeO.none _)
      | (with_reducible refine LeO.ite ?_ ?_)
      | (with_reducible refine LeO.bind ?_ (fun _ => ?_))
      | exact ih0 _ _ _ _ _ _ _ _
      | exact ih1 _ _ _ _ _ _ _ _ _ _
      | exact LeO.none _
      | refine LeO.ite ?_ ?_
      | refine LeO.bind ?_ (fun _ => ?_)
    · intro y0 y1 y2 y3 y4 y5 y6 y7 y8 y9
      unfold ratchetref01_Number.j1
      repeat' first
      | (with_reducible exact ih0 _ _ _ _ _ _ _ _)
      | (with_reducible exact ih1 _ _ _ _ _ _ _ _ _ _)
      | (with_reducible exact LeO.refl _)
      | (with_reducible exact LeO.none _)
      | (with_reducible refine LeO.ite ?_ ?_)
      | (with_reducible refine LeO.bind ?_ (fun _ => ?_))
      | exact ih0 _ _ _ _ _ _ _ _
      | exact ih1 _ _ _ _ _ _ _ _ _ _
      | exact LeO.none _
      | refine LeO.ite ?_ ?_
      | refine LeO.bind ?_ (fun _ => ?_)
theorem ratchetref01_Number.mono : ∀ a0 a1 a2 a3 a4 k, LeO (ratchetref01_Number.f k a0 a1 a2 a3 a4) (ratchetref01_Number.f (k + 1) a0 a1 a2 a3 a4) := by
  intro a0 a1 a2 a3 a4 k
  obtain ⟨ih0, ih1⟩ := ratchetref01_Number.mono_l k
  unfold ratchetref01_Number.f
  repeat' first
      | (with_reducible exact ih0 _ _ _ _ _ _ _ _)
      | (with_reducible exact ih1 _ _ _ _ _ _ _ _ _ _)
      | (with_reducible exact LeO.refl _)
      | (with_reducible exact LeO.none _)
      | (with_reducible refine LeO.ite ?_ ?_)
      | (with_reducible refine LeO.bind ?_ (fun _ => ?_))
      | exact ih0 _ _ _ _ _ _ _ _
      | exact ih1 _ _ _ _ _ _ _ _ _ _
      | exact LeO.none _
      | refine LeO.ite ?_ ?_
      | refine LeO.bind ?_ (fun _ => ?_)
set_option maxHeartbeats 8000000 in
set_option maxRecDepth 100000 in
theorem ratchetref01_Number.calls (k : Nat) (A0 : Option Addr) (c0 : Nat) (l0 : List Int) (a1 : Int) (a2 : Int) (a3 : Int) (a4 : Bool) (r1 : Int) (r2 : Int) (r3 : Int) (w : World) (hr0 : Kd.C (Kd.int .u8) w A0 l0.length l0) (hc0 : l0.length ≤ c0) (h : ratchetref01_Number.f k l0 a1 a2 a3 a4 = some (r1, r2, r3)) :
    Calls Try.prog 34 #[.slice A0 l0.length c0, .int .i64 a1, .int .i64 a2, .int .i64 a3, .bool a4] w fun e w' => e = .returned (.tuple #[.int .u64 r1, .int .i64 r2, .int .i64 r3]) ∧ Drawn0 w w' := by
  have HR0 := Aside0.mk hr0
  have HC0 := Aside0.mk hc0
  clear hr0 hc0
  have H : ((ratchetref01_reads.f l0 a1 a2).bind fun t327 => (if t327 = true then (ratchetref01_Number.l0 k l0 a1 a2 a3 a4 (wrap64 (Int.tdiv (wrap64 (a3 + 6)) 7)) 0 0) else (some (0, 0, 1)))) = some (r1, r2, r3) := h
  clear h
  replace H := Option.bind_eq_some_iff.mp H
  obtain ⟨t327, A60, H⟩ := H
  replace H : (if t327 = true then (ratchetref01_Number.l0 k l0 a1 a2 a3 a4 (wrap64 (Int.tdiv (wrap64 (a3 + 6)) 7)) 0 0) else (some (0, 0, 1))) = some (r1, r2, r3) := H
  have A6 := Aside0.mk A60
  clear A60
  by_cases c7 : t327 = true
  · subst c7
    have H1 : (ratchetref01_Number.l0 k l0 a1 a2 a3 a4 (wrap64 (Int.tdiv (wrap64 (a3 + 6)) 7)) 0 0) = some (r1, r2, r3) := by rw [if_pos rfl] at H; exact H
    clear H
    have H := H1
    clear H1
    have H' := Aside0.mk H
    clear H
    go_enter Try.func34, Try.ntmps34
    go_wp2_with (first | ((with_reducible refine gate_callee (f := 67) rfl ?_); refine goesL_ (some 20) rfl rfl Try.func67 (by kernel_rfl) rfl #[.slice A0 l0.length c0, .int .i64 a1, .int .i64 a2] rfl (by (try simp only [List.map_toArray, List.map_cons, List.map_nil]); first | done | rfl | (simp only [List.length_drop, List.length_take]; rfl)) ?_; (with_reducible refine (ratchetref01_reads.calls _ _ l0 a1 a2 true _ ?side1 ?side2 A6.out).mono ?_); (case side1 => repeat (first | exact HR0.out | (with_reducible refine Kd.C_alloc ?_ _) | (with_reducible refine Kd.C_drewN ?_ _) | (with_reducible refine Kd.C_drew ?_))); (case side2 => exact HC0.out); rintro e w' ⟨rfl, ⟨nd, rfl⟩⟩; refine ⟨_, rfl, ?_⟩))
    go_loopg [14, 15] k (fun kq v14 v15 w' => ∃ (x14_1 : Int) (x15_1 : Int), v14 = .int .u64 x14_1 ∧ v15 = .int .i64 x15_1 ∧ Aside0 (ratchetref01_Number.l0 kq l0 a1 a2 a3 a4 (wrap64 (Int.tdiv (wrap64 (a3 + 6)) 7)) x14_1 x15_1 = some (r1, r2, r3)) ∧ Aside0 (kq ≤ k) ∧ Drawn0 w w')
    case atStart => exact ⟨(0), (0), (by first | rfl | (simp; done) | (simp [*]; done)), (by first | rfl | (simp; done) | (simp [*]; done)), H', ⟨Nat.le_refl _⟩, by repeat (first | exact Drawn0.refl _ | apply Drawn0.step)⟩
    case round =>
      clear H'
      try clear p2
      try clear c3
      try clear c6
      try clear p6
      try clear c7
      obtain ⟨x14_1, x15_1, rfl, rfl, HA, HK1, ⟨m1, rfl⟩⟩ := hrel
      cases gk with
      | zero => exact absurd HA.out (by simp [ratchetref01_Number.l0])
      | succ k1 =>
        have H := HA.out
        clear HA
        simp only [ratchetref01_Number.l0] at H
        by_cases c8 : x15_1 < (wrap64 (Int.tdiv (wrap64 (a3 + 6)) 7))
        · rw [if_pos c8] at H
          have c8b0 : decide (x15_1 < (wrap64 (Int.tdiv (wrap64 (a3 + 6)) 7))) = true := decide_eq_true c8
          clear c8
          by_cases c9 : (wrap64 (a1 + x15_1)) ≥ a2
          · rw [if_pos c9] at H
            have c9b0 : decide (a2 ≤ (wrap64 (a1 + x15_1))) = true := decide_eq_true c9
            clear c9
            simp only [Option.some.injEq, Prod.mk.injEq] at H
            obtain ⟨rfl, rfl, rfl⟩ := H
            go_wp2
            go_ret3
            exact ⟨by first | rfl | (simp; done) | (simp [*]; done), by repeat (first | exact Drawn0.refl _ | apply Drawn0.step)⟩
          · rw [if_neg c9] at H
            have c9b0 : decide (a2 ≤ (wrap64 (a1 + x15_1))) = false := decide_eq_false c9
            clear c9
            obtain ⟨ji10, hji10⟩ : ∃ j_ : Int, (wrap64 (a1 + x15_1)) = j_ := ⟨_, rfl⟩
            replace H : (if 0 ≤ (ji10) then (if (ji10) < (l0.length : Int) then (if x15_1 = (wrap64 ((wrap64 (Int.tdiv (wrap64 (a3 + 6)) 7)) - 1)) then ((ratchetref01_last.f (rd l0 (ji10)) a3 x15_1 a4).bind fun t329 => (ratchetref01_Number.j1 k1 l0 a1 a2 a3 a4 (wrap64 (Int.tdiv (wrap64 (a3 + 6)) 7)) x14_1 x15_1 (rd l0 (ji10)) (!t329))) else (ratchetref01_Number.j1 k1 l0 a1 a2 a3 a4 (wrap64 (Int.tdiv (wrap64 (a3 + 6)) 7)) x14_1 x15_1 (rd l0 (ji10)) false)) else (none)) else (none)) = some (r1, r2, r3) := by first | (rw [hji10] at H; exact H) | (simp only [hji10] at H ⊢; exact H)
            (try rw [hji10] at c9b0)
            have hji10w : (IntKind.i64.wrap (a1 + x15_1)) = ji10 := (i64_w _).trans hji10
            by_cases c11 : 0 ≤ (ji10)
            · rw [if_pos c11] at H
              have c11b0 : decide (0 ≤ (ji10)) = true := decide_eq_true c11
              clear c11
              by_cases c12 : (ji10) < (l0.length : Int)
              · rw [if_pos c12] at H
                have c12b0 : decide ((ji10) < (l0.length : Int)) = true := decide_eq_true c12
                clear c12
                have HC13 := Aside0.mk H
                clear H
                have p328 : 0 ≤ ((ji10) : Int) := of_decide_eq_true (by first | (with_reducible assumption) | assumption)
                have q328 : (ji10) < (l0.length : Int) := of_decide_eq_true (by first | (with_reducible assumption) | assumption)
                obtain ⟨ad328, e328, hx328_0⟩ := Kd.at_int HR0.out (ji10) p328 q328
                cases e328
                replace p328 := eq_true p328
                replace q328 := eq_true q328
                go_upto_region 11 with (fail)
                go_cut [53] (fun v53 wc => ∃ (kq : Nat) (x53_12 : Bool), v53 = .bool x53_12 ∧ Aside0 (ratchetref01_Number.j1 kq l0 a1 a2 a3 a4 (wrap64 (Int.tdiv (wrap64 (a3 + 6)) 7)) x14_1 x15_1 (rd l0 (ji10)) x53_12 = some (r1, r2, r3)) ∧ Aside0 (kq ≤ k1) ∧ Drawn0 w wc)
                case first =>
                  have H := HC13.out
                  clear HC13
                  by_cases c14 : x15_1 = (wrap64 ((wrap64 (Int.tdiv (wrap64 (a3 + 6)) 7)) - 1))
                  · rw [if_pos c14] at H
                    have c14b0 : (x15_1 == (wrap64 ((wrap64 (Int.tdiv (wrap64 (a3 + 6)) 7)) - 1))) = true := beq_iff_eq.mpr c14
                    have c14b1 : (x15_1 != (wrap64 ((wrap64 (Int.tdiv (wrap64 (a3 + 6)) 7)) - 1))) = false := bne_eq_false_iff_eq.mpr c14
                    clear c14
                    (first | rw [c14b0] | (simp only [i64_w, i32_w]; rw [c14b0]) | skip)
                    replace H := Option.bind_eq_some_iff.mp H
                    obtain ⟨t329, A150, H⟩ := H
                    replace H : (ratchetref01_Number.j1 k1 l0 a1 a2 a3 a4 (wrap64 (Int.tdiv (wrap64 (a3 + 6)) 7)) x14_1 x15_1 (rd l0 (ji10)) (!t329)) = some (r1, r2, r3) := H
                    have A15 := Aside0.mk A150
                    clear A150
                    have H' := Aside0.mk H
                    clear H
                    go_wp2_with (first | (go_at_call 68; (with_reducible refine (ratchetref01_last.calls (rd l0 (ji10)) a3 x15_1 a4 t329 _ A15.out).mono ?_); rintro e w' ⟨rfl, ⟨nd, rfl⟩⟩))
                    go_meet
                    case rel => exact ⟨_, (!t329), (by first | rfl | (simp; done) | (simp [*]; done)), H', ⟨by have := HK1.out; first | omega | exact Nat.le_refl _⟩, by repeat (first | exact Drawn0.refl _ | apply Drawn0.step)⟩
                  · rw [if_neg c14] at H
                    have c14b0 : (x15_1 == (wrap64 ((wrap64 (Int.tdiv (wrap64 (a3 + 6)) 7)) - 1))) = false := beq_eq_false_iff_ne.mpr c14
                    have c14b1 : (x15_1 != (wrap64 ((wrap64 (Int.tdiv (wrap64 (a3 + 6)) 7)) - 1))) = true := bne_iff_ne.mpr c14
                    (first | rw [c14b0] | (simp only [i64_w, i32_w]; rw [c14b0]) | skip)
                    have H' := Aside0.mk H
                    clear H
                    go_wp2
                    go_meet
                    case rel => exact ⟨_, (false), (by first | rfl | (simp; done) | (simp [*]; done)), H', ⟨by have := HK1.out; first | omega | exact Nat.le_refl _⟩, by repeat (first | exact Drawn0.refl _ | apply Drawn0.step)⟩
                case rest =>
                  clear HC13
                  try clear c1
                  try clear p2
                  try clear c3
                  try clear p3
                  try clear q3
                  try clear hx3
                  try clear c6
                  try clear p6
                  try clear c7
                  try clear c8
                  try clear c8b0
                  try clear c9
                  try clear c9b0
                  try clear c11
                  try clear c11b0
                  try clear c12
                  try clear c12b0
                  try clear c14
                  try clear c14b0
                  try clear c14b1
                  try clear hx328_0
                  try clear p2
                  try clear p328
                  try clear p6
                  try clear q328
                  obtain ⟨kq, x53_12, rfl, HA, HJ12, ⟨mc12, rfl⟩⟩ := hcut
                  cases kq with
                  | zero => exact absurd HA.out (by simp [ratchetref01_Number.j1])
                  | succ kj12 =>
                    have H := HA.out
                    clear HA
                    simp only [ratchetref01_Number.j1] at H
                    by_cases c16 : x53_12 = true
                    · subst c16
                      have H1 : (some (0, wrap64 (a1 + x15_1), 4)) = some (r1, r2, r3) := by rw [if_pos rfl] at H; exact H
                      clear H
                      have H := H1
                      clear H1
                      simp only [Option.some.injEq, Prod.mk.injEq] at H
                      obtain ⟨rfl, rfl, rfl⟩ := H
                      go_wp2
                      go_ret3
                      exact ⟨by first | rfl | (simp; done) | (simp only [← hji10] <;> (first | rfl | simp)) | (simp [*]; done), by repeat (first | exact Drawn0.refl _ | apply Drawn0.step)⟩
                    · replace c16 := Bool.eq_false_iff.mpr c16
                      subst c16
                      have H1 : (if 0 ≤ (IntKind.u64.wrap (wrap64 (7 * x15_1))) then (if (rd l0 (ji10)) < 128 then (if a4 = true then (if (rd l0 (ji10)) ≥ 64 then (if (wrap64 ((wrap64 (7 * x15_1)) + 7)) < 64 then (if 0 ≤ (IntKind.u64.wrap (wrap64 ((wrap64 (7 * x15_1)) + 7))) then (some (IntKind.u64.wrap ((IntKind.u64.wrap (x14_1 + (shl .u64 (IntKind.u64.wrap (Int.tmod (rd l0 (ji10)) 128)) (IntKind.u64.wrap (wrap64 (7 * x15_1)))))) - (shl .u64 1 (IntKind.u64.wrap (wrap64 ((wrap64 (7 * x15_1)) + 7))))), wrap64 ((wrap64 (a1 + x15_1)) + 1), 0)) else (none)) else (some (IntKind.u64.wrap (x14_1 + (shl .u64 (IntKind.u64.wrap (Int.tmod (rd l0 (ji10)) 128)) (IntKind.u64.wrap (wrap64 (7 * x15_1))))), wrap64 ((wrap64 (a1 + x15_1)) + 1), 0))) else (some (IntKind.u64.wrap (x14_1 + (shl .u64 (IntKind.u64.wrap (Int.tmod (rd l0 (ji10)) 128)) (IntKind.u64.wrap (wrap64 (7 * x15_1))))), wrap64 ((wrap64 (a1 + x15_1)) + 1), 0))) else (some (IntKind.u64.wrap (x14_1 + (shl .u64 (IntKind.u64.wrap (Int.tmod (rd l0 (ji10)) 128)) (IntKind.u64.wrap (wrap64 (7 * x15_1))))), wrap64 ((wrap64 (a1 + x15_1)) + 1), 0))) else (ratchetref01_Number.l0 kj12 l0 a1 a2 a3 a4 (wrap64 (Int.tdiv (wrap64 (a3 + 6)) 7)) (IntKind.u64.wrap (x14_1 + (shl .u64 (IntKind.u64.wrap (Int.tmod (rd l0 (ji10)) 128)) (IntKind.u64.wrap (wrap64 (7 * x15_1)))))) (wrap64 (x15_1 + 1)))) else (none)) = some (r1, r2, r3) := by rw [if_neg (show ¬ (false = true) by decide)] at H; exact H
                      clear H
                      have H := H1
                      clear H1
                      obtain ⟨ji17, hji17⟩ : ∃ j_ : Int, (IntKind.u64.wrap (wrap64 (7 * x15_1))) = j_ := ⟨_, rfl⟩
                      replace H : (if 0 ≤ (ji17) then (if (rd l0 (ji10)) < 128 then (if a4 = true then (if (rd l0 (ji10)) ≥ 64 then (if (wrap64 ((wrap64 (7 * x15_1)) + 7)) < 64 then (if 0 ≤ (IntKind.u64.wrap (wrap64 ((wrap64 (7 * x15_1)) + 7))) then (some (IntKind.u64.wrap ((IntKind.u64.wrap (x14_1 + (shl .u64 (IntKind.u64.wrap (Int.tmod (rd l0 (ji10)) 128)) (ji17)))) - (shl .u64 1 (IntKind.u64.wrap (wrap64 ((wrap64 (7 * x15_1)) + 7))))), wrap64 ((wrap64 (a1 + x15_1)) + 1), 0)) else (none)) else (some (IntKind.u64.wrap (x14_1 + (shl .u64 (IntKind.u64.wrap (Int.tmod (rd l0 (ji10)) 128)) (ji17))), wrap64 ((wrap64 (a1 + x15_1)) + 1), 0))) else (some (IntKind.u64.wrap (x14_1 + (shl .u64 (IntKind.u64.wrap (Int.tmod (rd l0 (ji10)) 128)) (ji17))), wrap64 ((wrap64 (a1 + x15_1)) + 1), 0))) else (some (IntKind.u64.wrap (x14_1 + (shl .u64 (IntKind.u64.wrap (Int.tmod (rd l0 (ji10)) 128)) (ji17))), wrap64 ((wrap64 (a1 + x15_1)) + 1), 0))) else (ratchetref01_Number.l0 kj12 l0 a1 a2 a3 a4 (wrap64 (Int.tdiv (wrap64 (a3 + 6)) 7)) (IntKind.u64.wrap (x14_1 + (shl .u64 (IntKind.u64.wrap (Int.tmod (rd l0 (ji10)) 128)) (ji17)))) (wrap64 (x15_1 + 1)))) else (none)) = some (r1, r2, r3) := by first | (rw [hji17] at H; exact H) | (simp only [hji17] at H ⊢; exact H)
                      by_cases c18 : 0 ≤ (ji17)
                      · rw [if_pos c18] at H
                        have c18b0 := eq_true c18
                        have c18b1 : decide (0 ≤ (ji17)) = true := decide_eq_true c18
                        clear c18
                        obtain ⟨ji19, hji19⟩ : ∃ j_ : Int, (shl .u64 (IntKind.u64.wrap (Int.tmod (rd l0 (ji10)) 128)) (ji17)) = j_ := ⟨_, rfl⟩
                        replace H : (if (rd l0 (ji10)) < 128 then (if a4 = true then (if (rd l0 (ji10)) ≥ 64 then (if (wrap64 ((wrap64 (7 * x15_1)) + 7)) < 64 then (if 0 ≤ (IntKind.u64.wrap (wrap64 ((wrap64 (7 * x15_1)) + 7))) then (some (IntKind.u64.wrap ((IntKind.u64.wrap (x14_1 + (ji19))) - (shl .u64 1 (IntKind.u64.wrap (wrap64 ((wrap64 (7 * x15_1)) + 7))))), wrap64 ((wrap64 (a1 + x15_1)) + 1), 0)) else (none)) else (some (IntKind.u64.wrap (x14_1 + (ji19)), wrap64 ((wrap64 (a1 + x15_1)) + 1), 0))) else (some (IntKind.u64.wrap (x14_1 + (ji19)), wrap64 ((wrap64 (a1 + x15_1)) + 1), 0))) else (some (IntKind.u64.wrap (x14_1 + (ji19)), wrap64 ((wrap64 (a1 + x15_1)) + 1), 0))) else (ratchetref01_Number.l0 kj12 l0 a1 a2 a3 a4 (wrap64 (Int.tdiv (wrap64 (a3 + 6)) 7)) (IntKind.u64.wrap (x14_1 + (ji19))) (wrap64 (x15_1 + 1)))) = some (r1, r2, r3) := by first | (rw [hji19] at H; exact H) | (simp only [hji19] at H ⊢; exact H)
                        have hji19_ : (IntKind.u64.wrap ((IntKind.u64.wrap (Int.tmod (rd l0 (ji10)) 128)) * 2 ^ min (ji17).toNat 64)) = ji19 := hji19
                        have hji19z : (ji17) ≤ 64 → (IntKind.u64.wrap ((IntKind.u64.wrap (Int.tmod (rd l0 (ji10)) 128)) * 2 ^ (ji17).toNat)) = ji19 := shl_small hji19
                        by_cases c20 : (rd l0 (ji10)) < 128
                        · rw [if_pos c20] at H
                          have c20b0 : decide ((rd l0 (ji10)) < 128) = true := decide_eq_true c20
                          clear c20
                          by_cases c21 : a4 = true
                          · subst c21
                            have H1 : (if (rd l0 (ji10)) ≥ 64 then (if (wrap64 ((wrap64 (7 * x15_1)) + 7)) < 64 then (if 0 ≤ (IntKind.u64.wrap (wrap64 ((wrap64 (7 * x15_1)) + 7))) then (some (IntKind.u64.wrap ((IntKind.u64.wrap (x14_1 + (ji19))) - (shl .u64 1 (IntKind.u64.wrap (wrap64 ((wrap64 (7 * x15_1)) + 7))))), wrap64 ((wrap64 (a1 + x15_1)) + 1), 0)) else (none)) else (some (IntKind.u64.wrap (x14_1 + (ji19)), wrap64 ((wrap64 (a1 + x15_1)) + 1), 0))) else (some (IntKind.u64.wrap (x14_1 + (ji19)), wrap64 ((wrap64 (a1 + x15_1)) + 1), 0))) = some (r1, r2, r3) := by rw [if_pos rfl] at H; exact H
                            clear H
                            have H := H1
                            clear H1
                            by_cases c22 : (rd l0 (ji10)) ≥ 64
                            · rw [if_pos c22] at H
                              have c22b0 : decide (64 ≤ (rd l0 (ji10))) = true := decide_eq_true c22
                              clear c22
                              by_cases c23 : (wrap64 ((wrap64 (7 * x15_1)) + 7)) < 64
                              · rw [if_pos c23] at H
                                have c23b0 : decide ((wrap64 ((wrap64 (7 * x15_1)) + 7)) < 64) = true := decide_eq_true c23
                                clear c23
                                obtain ⟨ji24, hji24⟩ : ∃ j_ : Int, (IntKind.u64.wrap (wrap64 ((wrap64 (7 * x15_1)) + 7))) = j_ := ⟨_, rfl⟩
                                replace H : (if 0 ≤ (ji24) then (some (IntKind.u64.wrap ((IntKind.u64.wrap (x14_1 + (ji19))) - (shl .u64 1 (ji24))), wrap64 ((wrap64 (a1 + x15_1)) + 1), 0)) else (none)) = some (r1, r2, r3) := by first | (rw [hji24] at H; exact H) | (simp only [hji24] at H ⊢; exact H)
                                by_cases c25 : 0 ≤ (ji24)
                                · rw [if_pos c25] at H
                                  have c25b0 := eq_true c25
                                  have c25b1 : decide (0 ≤ (ji24)) = true := decide_eq_true c25
                                  clear c25
                                  obtain ⟨ji26, hji26⟩ : ∃ j_ : Int, (shl .u64 1 (ji24)) = j_ := ⟨_, rfl⟩
                                  replace H : (some (IntKind.u64.wrap ((IntKind.u64.wrap (x14_1 + (ji19))) - (ji26)), wrap64 ((wrap64 (a1 + x15_1)) + 1), 0)) = some (r1, r2, r3) := by first | (rw [hji26] at H; exact H) | (simp only [hji26] at H ⊢; exact H)
                                  have hji26_ : (IntKind.u64.wrap (1 * 2 ^ min (ji24).toNat 64)) = ji26 := hji26
                                  have hji26z : (ji24) ≤ 64 → (IntKind.u64.wrap (1 * 2 ^ (ji24).toNat)) = ji26 := shl_small hji26
                                  have hji26u : (IntKind.u64.wrap (2 ^ min (ji24).toNat 64)) = ji26 := by have h_ := hji26_; rw [Int.one_mul] at h_; exact h_
                                  have hji26v : (ji24) ≤ 64 → (IntKind.u64.wrap (2 ^ (ji24).toNat)) = ji26 := fun hle_ => by have h_ := hji26z hle_; rw [Int.one_mul] at h_; exact h_
                                  simp only [Option.some.injEq, Prod.mk.injEq] at H
                                  obtain ⟨rfl, rfl, rfl⟩ := H
                                  go_wp2
                                  go_ret3
                                  exact ⟨by first | rfl | (simp; done) | (simp only [← hji10, ← hji17, ← hji19, ← hji24, ← hji26] <;> (first | rfl | simp)) | (simp [*]; done), by repeat (first | exact Drawn0.refl _ | apply Drawn0.step)⟩
                                · rw [if_neg c25] at H
                                  exact absurd H (by simp)
                              · rw [if_neg c23] at H
                                have c23b0 : decide ((wrap64 ((wrap64 (7 * x15_1)) + 7)) < 64) = false := decide_eq_false c23
                                clear c23
                                simp only [Option.some.injEq, Prod.mk.injEq] at H
                                obtain ⟨rfl, rfl, rfl⟩ := H
                                go_wp2
                                go_ret3
                                exact ⟨by first | rfl | (simp; done) | (simp only [← hji10, ← hji17, ← hji19] <;> (first | rfl | simp)) | (simp [*]; done), by repeat (first | exact Drawn0.refl _ | apply Drawn0.step)⟩
                            · rw [if_neg c22] at H
                              have c22b0 : decide (64 ≤ (rd l0 (ji10))) = false := decide_eq_false c22
                              clear c22
                              simp only [Option.some.injEq, Prod.mk.injEq] at H
                              obtain ⟨rfl, rfl, rfl⟩ := H
                              go_wp2
                              go_ret3
                              exact ⟨by first | rfl | (simp; done) | (simp only [← hji10, ← hji17, ← hji19] <;> (first | rfl | simp)) | (simp [*]; done), by repeat (first | exact Drawn0.refl _ | apply Drawn0.step)⟩
                          · replace c21 := Bool.eq_false_iff.mpr c21
                            subst c21
                            have H1 : (some (IntKind.u64.wrap (x14_1 + (ji19)), wrap64 ((wrap64 (a1 + x15_1)) + 1), 0)) = some (r1, r2, r3) := by rw [if_neg (show ¬ (false = true) by decide)] at H; exact H
                            clear H
                            have H := H1
                            clear H1
                            simp only [Option.some.injEq, Prod.mk.injEq] at H
                            obtain ⟨rfl, rfl, rfl⟩ := H
                            go_wp2
                            go_ret3
                            exact ⟨by first | rfl | (simp; done) | (simp only [← hji10, ← hji17, ← hji19] <;> (first | rfl | simp)) | (simp [*]; done), by repeat (first | exact Drawn0.refl _ | apply Drawn0.step)⟩
                        · rw [if_neg c20] at H
                          have c20b0 : decide ((rd l0 (ji10)) < 128) = false := decide_eq_false c20
                          clear c20
                          have H' := Aside0.mk H
                          clear H
                          go_wp2
                          go_roundg kj12
                          case measure => have := HK1.out; have := HJ12.out; omega
                          case rel => exact ⟨(IntKind.u64.wrap (x14_1 + (ji19))), (wrap64 (x15_1 + 1)), (by first | rfl | (simp; done) | (simp only [← hji19] <;> (first | rfl | simp)) | (simp [*]; done)), (by first | rfl | (simp; done) | (simp [*]; done)), H', ⟨by have := HK1.out; have := HJ12.out; omega⟩, by repeat (first | exact Drawn0.refl _ | apply Drawn0.step)⟩
                      · rw [if_neg c18] at H
                        exact absurd H (by simp)
              · rw [if_neg c12] at H
                exact absurd H (by simp)
            · rw [if_neg c11] at H
              exact absurd H (by simp)
        · rw [if_neg c8] at H
          have c8b0 : decide (x15_1 < (wrap64 (Int.tdiv (wrap64 (a3 + 6)) 7))) = false := decide_eq_false c8
          clear c8
          simp only [Option.some.injEq, Prod.mk.injEq] at H
          obtain ⟨rfl, rfl, rfl⟩ := H
          go_wp2
          go_ret3
          exact ⟨by first | rfl | (simp; done) | (simp [*]; done), by repeat (first | exact Drawn0.refl _ | apply Drawn0.step)⟩
  · replace c7 := Bool.eq_false_iff.mpr c7
    subst c7
    have H1 : (some (0, 0, 1)) = some (r1, r2, r3) := by rw [if_neg (show ¬ (false = true) by decide)] at H; exact H
    clear H
    have H := H1
    clear H1
    simp only [Option.some.injEq, Prod.mk.injEq] at H
    obtain ⟨rfl, rfl, rfl⟩ := H
    go_enter Try.func34, Try.ntmps34
    go_wp2_with (first | ((with_reducible refine gate_callee (f := 67) rfl ?_); refine goesL_ (some 20) rfl rfl Try.func67 (by kernel_rfl) rfl #[.slice A0 l0.length c0, .int .i64 a1, .int .i64 a2] rfl (by (try simp only [List.map_toArray, List.map_cons, List.map_nil]); first | done | rfl | (simp only [List.length_drop, List.length_take]; rfl)) ?_; (with_reducible refine (ratchetref01_reads.calls _ _ l0 a1 a2 false _ ?side1 ?side2 A6.out).mono ?_); (case side1 => repeat (first | exact HR0.out | (with_reducible refine Kd.C_alloc ?_ _) | (with_reducible refine Kd.C_drewN ?_ _) | (with_reducible refine Kd.C_drew ?_))); (case side2 => exact HC0.out); rintro e w' ⟨rfl, ⟨nd, rfl⟩⟩; refine ⟨_, rfl, ?_⟩))
    go_ret3
    exact ⟨by first | rfl | (simp; done) | (simp [*]; done), by repeat (first | exact Drawn0.refl _ | apply Drawn0.step)⟩

end Go.Proofs.Yteajikofpcnagaa.Leb
