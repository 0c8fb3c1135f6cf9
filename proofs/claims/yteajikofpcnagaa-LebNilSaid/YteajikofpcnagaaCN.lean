/- A cursor that nobody made: each of its calls answers nothing and leaves memory as it is. -/
import Derived.Test.YteajikofpcnagaaProg
import Derived.WalkKit
import Derived.WalkLawsBesides
import Derived.WalkSpells
import Derived.Below
import Derived.BigQuiet
import Derived.Deep.QuietTactic
namespace Go.Proofs.Yteajikofpcnagaa.CN
open Go.RowKit
set_option linter.unusedVariables false
set_option linter.unusedSimpArgs false
/-- A pointer to no cursor that a call made. -/
def Zero (p : Value) (w : World) : Prop := p = .pointer none ∨ ∃ g, p = .pointer (some ⟨g, 0, none⟩) ∧ w.cell? ⟨g, 3, none⟩ = some (.bool false)
set_option maxHeartbeats 1600000 in
theorem none_z (p : Value) (w : World) (h : Zero p w) : Calls Try.prog 72 #[p] w fun e w' => e = .returned (.bool true) ∧ w = w' := by
  rcases h with rfl | ⟨g, rfl, hc⟩
  · go_enter Try.func72, Try.ntmps72
    go_wp2
    go_ret
    exact ⟨rfl, rfl⟩
  · go_enter Try.func72, Try.ntmps72
    go_wp2
    go_ret
    exact ⟨rfl, rfl⟩
theorem Zero.drewN {p : Value} {w : World} (h : Zero p w) (n : Nat) : Zero p (w.drewN n) := h
set_option maxHeartbeats 1600000 in
theorem bad_z (p : Value) (w : World) (h : Zero p w) : Calls Try.prog 73 #[p] w fun e w' => e = .returned (.bool true) ∧ w = w' := by
  go_enter Try.func73, Try.ntmps73
  go_wp2_with (go_at_call 72; refine (none_z _ _ h).mono ?_; rintro e w' ⟨rfl, rfl⟩)
  go_ret
  exact ⟨rfl, rfl⟩
set_option maxHeartbeats 1600000 in
theorem err_z (p : Value) (w : World) (h : Zero p w) : Calls Try.prog 36 #[p] w fun e w' => e = .returned (.tuple #[.int .i64 0, .int .i64 7]) ∧ w = w' := by
  go_enter Try.func36, Try.ntmps36
  go_wp2_with (go_at_call 72; refine (none_z _ _ h).mono ?_; rintro e w' ⟨rfl, rfl⟩)
  go_ret2
  exact ⟨rfl, rfl⟩
set_option maxHeartbeats 1600000 in
theorem fail_z (p : Value) (a e0 : Int) (w : World) (h : Zero p w) : Calls Try.prog 37 #[p, .int .i64 a, .int .i64 e0] w fun e w' => e = .returned (.tuple #[]) ∧ w = w' := by
  go_enter Try.func37, Try.ntmps37
  go_wp2_with (go_at_call 73; refine (bad_z _ _ h).mono ?_; rintro e w' ⟨rfl, rfl⟩)
  go_end0
  exact ⟨rfl, rfl⟩
set_option maxHeartbeats 1600000 in
theorem left_z (p : Value) (w : World) (h : Zero p w) : Calls Try.prog 45 #[p] w fun e w' => e = .returned (.int .i64 0) ∧ w = w' := by
  go_enter Try.func45, Try.ntmps45
  go_wp2_with (go_at_call 73; refine (bad_z _ _ h).mono ?_; rintro e w' ⟨rfl, rfl⟩)
  go_ret
  exact ⟨rfl, rfl⟩
set_option maxHeartbeats 1600000 in
theorem end_z (p : Value) (w : World) (h : Zero p w) : Calls Try.prog 38 #[p] w fun e w' => e = .returned (.tuple #[]) ∧ w = w' := by
  go_enter Try.func38, Try.ntmps38
  go_wp2_with (go_at_call 45; refine (left_z _ _ h).mono ?_; rintro e w' ⟨rfl, rfl⟩)
  go_end0
  exact ⟨rfl, rfl⟩
set_option maxHeartbeats 1600000 in
theorem peek_z (p : Value) (w : World) (h : Zero p w) : Calls Try.prog 39 #[p] w fun e w' => e = .returned (.tuple #[.int .u8 0, .bool false]) ∧ ∃ n, w' = w.drewN n := by
  go_enter Try.func39, Try.ntmps39
  go_wp2_with fail
  go_quiet ((go_at_call 73; exact Calls.quiet_of_same ((bad_z _ _ (Zero.drewN h _)).mono fun _ _ hh => ⟨hh.1, hh.2.symm⟩)))
  go_wp2
  go_ret2
  exact ⟨rfl, _, rfl⟩
set_option maxHeartbeats 1600000 in
theorem within_z (p : Value) (n : Int) (w : World) (h : Zero p w) : Calls Try.prog 40 #[p, .int .u32 n] w fun e w' => e = .returned (.pointer none) ∧ w = w' := by
  go_enter Try.func40, Try.ntmps40
  go_wp2_with (go_at_call 72; refine (none_z _ _ h).mono ?_; rintro e w' ⟨rfl, rfl⟩)
  go_ret
  exact ⟨rfl, rfl⟩
set_option maxHeartbeats 1600000 in
theorem take_u (p f : Value) (w : World) (h : Zero p w) : Calls Try.prog 74 #[p, f] w fun e w' => e = .returned (.int .u64 0) ∧ w = w' := by
  go_enter Try.func74, Try.ntmps74
  go_wp2_with (go_at_call 73; refine (bad_z _ _ h).mono ?_; rintro e w' ⟨rfl, rfl⟩)
  go_ret
  exact ⟨rfl, rfl⟩
set_option maxHeartbeats 1600000 in
theorem take_s (p f : Value) (w : World) (h : Zero p w) : Calls Try.prog 75 #[p, f] w fun e w' => e = .returned (.int .i64 0) ∧ w = w' := by
  go_enter Try.func75, Try.ntmps75
  go_wp2_with (go_at_call 73; refine (bad_z _ _ h).mono ?_; rintro e w' ⟨rfl, rfl⟩)
  go_ret
  exact ⟨rfl, rfl⟩
set_option maxHeartbeats 1600000 in
theorem u32_z (p : Value) (w : World) (h : Zero p w) : Calls Try.prog 41 #[p] w fun e w' => e = .returned (.int .u32 0) ∧ w = w' := by
  go_enter Try.func41, Try.ntmps41
  go_wp2_with (go_at_call 74; refine (take_u _ _ _ h).mono ?_; rintro e w' ⟨rfl, rfl⟩)
  go_ret
  exact ⟨rfl, rfl⟩
set_option maxHeartbeats 1600000 in
theorem s64_z (p : Value) (w : World) (h : Zero p w) : Calls Try.prog 42 #[p] w fun e w' => e = .returned (.int .i64 0) ∧ w = w' := by
  go_enter Try.func42, Try.ntmps42
  go_wp2_with (go_at_call 75; refine (take_s _ _ _ h).mono ?_; rintro e w' ⟨rfl, rfl⟩)
  go_ret
  exact ⟨rfl, rfl⟩
set_option maxHeartbeats 1600000 in
theorem bytes_z (p : Value) (n : Int) (w : World) (h : Zero p w) : Calls Try.prog 43 #[p, .int .u32 n] w fun e w' => e = .returned (.slice none 0 0) ∧ w = w' := by
  go_enter Try.func43, Try.ntmps43
  go_wp2_with (first | (go_at_call 40; refine (within_z _ _ _ h).mono ?_; rintro e w' ⟨rfl, rfl⟩) | (go_at_call 73; refine (bad_z _ _ (.inl rfl)).mono ?_; rintro e w' ⟨rfl, rfl⟩))
  go_ret
  exact ⟨rfl, rfl⟩
set_option maxHeartbeats 1600000 in
theorem at_z (p : Value) (w : World) (h : Zero p w) : Calls Try.prog 44 #[p] w fun e w' => e = .returned (.int .i64 0) ∧ w = w' := by
  go_enter Try.func44, Try.ntmps44
  go_wp2_with (go_at_call 72; refine (none_z _ _ h).mono ?_; rintro e w' ⟨rfl, rfl⟩)
  go_ret
  exact ⟨rfl, rfl⟩
theorem zero_new (w : World) : Zero (.pointer (some ⟨w.heap.size, 0, none⟩)) (w.alloc (.cells #[.slice none 0 0, .int .i64 0, .int .i64 0, .bool false, .int .i64 0, .int .i64 0] 68)) := .inr ⟨_, rfl, by simp [go_sem]⟩
set_option maxHeartbeats 4000000 in
set_option maxRecDepth 100000 in
theorem law (n : Int) (w : World) : Calls Try.prog 10 #[.int .u32 n] w fun e w' => e = .returned (.bool true) ∧ Below w.heap.size w w' := by
  have hz := zero_new w
  go_enter Try.func10, Try.ntmps10
  go_wp2_with (first | (go_at_call 36; refine (err_z _ _ (by first | exact .inl rfl | exact hz)).mono ?_; rintro e w' ⟨rfl, rfl⟩) | (go_at_call 37; refine (fail_z _ _ _ _ (by first | exact .inl rfl | exact hz)).mono ?_; rintro e w' ⟨rfl, rfl⟩) | (go_at_call 38; refine (end_z _ _ (by first | exact .inl rfl | exact hz)).mono ?_; rintro e w' ⟨rfl, rfl⟩) | (go_at_call 39; refine (peek_z _ _ (by first | exact .inl rfl | exact hz)).mono ?_; rintro e w' ⟨rfl, ⟨nd, rfl⟩⟩) | (go_at_call 40; refine (within_z _ _ _ (by first | exact .inl rfl | exact hz)).mono ?_; rintro e w' ⟨rfl, rfl⟩) | (go_at_call 41; refine (u32_z _ _ (by first | exact .inl rfl | exact hz)).mono ?_; rintro e w' ⟨rfl, rfl⟩) | (go_at_call 42; refine (s64_z _ _ (by first | exact .inl rfl | exact hz)).mono ?_; rintro e w' ⟨rfl, rfl⟩) | (go_at_call 43; refine (bytes_z _ _ _ (by first | exact .inl rfl | exact hz)).mono ?_; rintro e w' ⟨rfl, rfl⟩) | (go_at_call 44; refine (at_z _ _ (by first | exact .inl rfl | exact hz)).mono ?_; rintro e w' ⟨rfl, rfl⟩) | (go_at_call 45; refine (left_z _ _ (by first | exact .inl rfl | exact hz)).mono ?_; rintro e w' ⟨rfl, rfl⟩))
  go_ret
  have hb := (Below.refl w.heap.size w).alloc (Nat.le_refl _) (.cells #[.slice none 0 0, .int .i64 0, .int .i64 0, .bool false, .int .i64 0, .int .i64 0] 68)
  exact ⟨rfl, ⟨hb.os, hb.tape, hb.output, hb.size, hb.block⟩⟩
end Go.Proofs.Yteajikofpcnagaa.CN
