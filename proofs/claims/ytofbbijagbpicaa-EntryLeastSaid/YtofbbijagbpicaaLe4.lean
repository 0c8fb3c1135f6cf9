/- What the law rests on, part 5 of 5: a reading of the program's code over told data, and what it comes to. -/
import Derived.Test.YtofbbijagbpicaaLe3
namespace Go.Proofs.Ytofbbijagbpicaa.Pi.Q
open Go Go.Proofs.Ytofbbijagbpicaa.Pi
set_option linter.unusedVariables false
set_option linter.unusedSimpArgs false
def Back {α : Type} (r : List UInt8 → Nat → Rs α) (w : α → Wr) : Prop := ∀ v u, w v = .ok u → ∀ b p, At b p u → r b p = .ok v (p + u.length)
def Least {α : Type} (r : List UInt8 → Nat → Rs α) (w : α → Wr) : Prop := ∀ b p v q, r b p = .ok v q → ∃ u, w v = .ok u ∧ p + u.length ≤ q
theorem index_back : Back rIndex wIndex := by
  intro v u h b p ha
  unfold wIndex at h
  split at h
  · rename_i hv
    cases h
    unfold rIndex
    rw [rU32_put ha (by omega)]
    simp only
    rw [if_neg (by omega)]
    simp only [Rs.ok.injEq, and_true]
    omega
  · cases h
theorem index_least : Least rIndex wIndex := by
  intro b p v q h
  unfold rIndex at h
  cases hr : rU32 b p with
  | ok n q1 =>
    rw [hr] at h
    simp only at h
    split at h
    · cases h
    · simp only [Rs.ok.injEq] at h
      obtain ⟨rfl, rfl⟩ := h
      refine ⟨putU n, ?_, rdU_least hr⟩
      unfold wIndex
      rw [if_pos (by omega), Int.toNat_natCast]
  | err a w => rw [hr] at h; cases h
theorem find_named : ∀ (h : Int), h < 0 → ∀ j, find h absI 0 = some j → j < 12 ∧ hname (105 + j) = h := by
  intro h hn j hj
  by_cases hin : h = -11 ∨ h = -9 ∨ h = -8 ∨ h = -7 ∨ h = -6 ∨ h = -5 ∨ h = -3 ∨ h = -1 ∨ h = -10 ∨ h = -4 ∨ h = -2 ∨ h = -12
  · rcases hin with rfl | rfl | rfl | rfl | rfl | rfl | rfl | rfl | rfl | rfl | rfl | rfl <;> (cases hj; exact ⟨by decide, by decide⟩)
  · have : find h absI 0 = none := by
      unfold absI
      simp only [find]
      rw [if_neg (by omega), if_neg (by omega), if_neg (by omega), if_neg (by omega), if_neg (by omega), if_neg (by omega), if_neg (by omega), if_neg (by omega), if_neg (by omega), if_neg (by omega), if_neg (by omega), if_neg (by omega)]
    rw [this] at hj
    cases hj
theorem named_find : ∀ x : Nat, hname x ≠ 0 → hname x < 0 ∧ wNamed (find (hname x) absI 0) = .ok [UInt8.ofNat x] := by
  intro x hx
  have h : x = 105 ∨ x = 106 ∨ x = 107 ∨ x = 108 ∨ x = 109 ∨ x = 110 ∨ x = 111 ∨ x = 112 ∨ x = 113 ∨ x = 114 ∨ x = 115 ∨ x = 116 := by
    by_cases h : 105 ≤ x ∧ x ≤ 116
    · omega
    · exact absurd (hname_out (by omega)) hx
  rcases h with rfl | rfl | rfl | rfl | rfl | rfl | rfl | rfl | rfl | rfl | rfl | rfl <;> exact ⟨by decide, rfl⟩
theorem s33_back {v : Int} (h0 : 0 ≤ v) (h1 : v ≤ 2147483647) {b : List UInt8} {p : Nat} (ha : At b p (putS v)) : rS33 b p = .ok v (p + (putS v).length) := by
  unfold rS33
  rw [rdS_put ha (by decide) (by decide) (by omega) (by simp; omega)]
  simp only
  rw [if_neg (by omega), if_neg (by omega)]
theorem putS_head {v : Int} (h0 : 0 ≤ v) : ∃ c r, putS v = c :: r ∧ (c.toNat < 64 ∨ 128 ≤ c.toNat) := by
  rw [putS]
  split
  · refine ⟨_, _, rfl, ?_⟩
    rw [ofNat_small (by omega)]
    omega
  · refine ⟨_, _, rfl, ?_⟩
    rw [ofNat_small (by omega)]
    omega
theorem heap_back : Back rHeap wHeap := by
  intro v u h b p ha
  unfold wHeap at h
  split at h
  · split at h
    · rename_i h0 h1
      cases h
      obtain ⟨c, r, hc, hcr⟩ := putS_head h0
      have hs := s33_back h0 h1 ha
      rw [hc] at ha
      obtain ⟨a1, a2, a3⟩ := at_cons ha
      unfold rHeap
      rw [if_pos a1, a2, if_neg (by rw [hname_out (by omega)]; simp), hs]
    · cases h
  · rename_i h0
    unfold wNamed at h
    cases hf : find v absI 0 with
    | some j =>
      rw [hf] at h
      cases h
      obtain ⟨hj, hn⟩ := find_named v (by omega) j hf
      obtain ⟨a1, a2, a3⟩ := at_cons ha
      unfold rHeap
      rw [if_pos a1, a2, ofNat_small (by omega), hn, if_pos (by omega)]
      rfl
    | none => rw [hf] at h; cases h
theorem heap_least : Least rHeap wHeap := by
  intro b p v q h
  unfold rHeap at h
  split at h
  · split at h
    · rename_i hn
      simp only [Rs.ok.injEq] at h
      obtain ⟨rfl, rfl⟩ := h
      obtain ⟨h1, h2⟩ := named_find _ hn
      refine ⟨[UInt8.ofNat (b.getD p 0).toNat], ?_, ?_⟩
      · unfold wHeap
        rw [if_neg (by omega), h2]
      · simp
    · unfold rS33 at h
      cases hr : rdS b 33 b.length p with
      | ok n q1 =>
        rw [hr] at h
        simp only at h
        split at h
        · cases h
        · split at h
          · cases h
          · simp only [Rs.ok.injEq] at h
            obtain ⟨rfl, rfl⟩ := h
            refine ⟨putS n, ?_, rdS_least (by decide) (by decide) hr⟩
            unfold wHeap
            rw [if_pos (by omega), if_pos (by omega)]
      | err a w => rw [hr] at h; cases h
  · cases h
theorem wCat_ok {u : List UInt8} {w : Wr} {v : List UInt8} (h : wCat u w = .ok v) : ∃ x, w = .ok x ∧ v = u ++ x := by
  cases w with
  | ok x => cases h; exact ⟨x, rfl, rfl⟩
  | err e => cases h
theorem val_back : Back rVal wVal := by
  intro v u h b p ha
  obtain ⟨num, nul, heap⟩ := v
  unfold wVal at h
  simp only at h
  split at h
  · rename_i h5
    subst h5
    obtain ⟨x, hx, rfl⟩ := wCat_ok h
    cases nul with
    | false =>
      rw [if_pos rfl] at ha ⊢
      obtain ⟨a1, a2, a3⟩ := at_cons ha
      have := heap_back _ _ hx _ _ a3
      unfold rVal rRef
      rw [if_pos a1, a2, if_neg (by decide), if_neg (by decide), if_pos a1]
      simp only [a2]
      rw [if_neg (by decide), if_neg (by decide), this]
      simp only [List.length_append, List.length_cons, List.length_nil, Rs.ok.injEq]
      exact ⟨rfl, by omega⟩
    | true =>
      rw [if_neg (by simp)] at ha ⊢
      by_cases h0 : 0 ≤ heap
      · rw [if_pos h0] at ha ⊢
        obtain ⟨a1, a2, a3⟩ := at_cons ha
        have := heap_back _ _ hx _ _ a3
        unfold rVal rRef
        rw [if_pos a1, a2, if_neg (by decide), if_neg (by decide), if_pos a1]
        simp only [a2]
        rw [if_neg (by decide), if_neg (by decide), this]
        simp only [List.length_append, List.length_cons, List.length_nil, Rs.ok.injEq]
        exact ⟨rfl, by omega⟩
      · rw [if_neg h0] at ha ⊢
        unfold wHeap at hx
        rw [if_neg h0] at hx
        unfold wNamed at hx
        cases hf : find heap absI 0 with
        | some j =>
          rw [hf] at hx
          cases hx
          obtain ⟨hj, hn⟩ := find_named heap (by omega) j hf
          rw [List.nil_append] at ha ⊢
          obtain ⟨a1, a2, a3⟩ := at_cons ha
          unfold rVal rRef
          rw [if_pos a1, a2, ofNat_small (by omega), if_neg (by omega), if_neg (by omega), if_pos a1]
          simp only [a2, ofNat_small (show 105 + j < 256 by omega)]
          rw [hn, if_pos (by omega)]
          rfl
        | none => rw [hf] at hx; cases hx
  · split at h
    · rename_i h5 hc
      obtain ⟨c1, c2, c3, c4⟩ := hc
      cases h
      obtain ⟨a1, a2, a3⟩ := at_cons ha
      unfold rVal
      rw [if_pos a1, a2, ofNat_small (by omega), if_neg (by omega), if_pos (by omega)]
      simp only [List.length_cons, List.length_nil, Rs.ok.injEq, VT.mk.injEq, and_true]
      refine ⟨by omega, ?_, ?_⟩
      · exact c3.symm
      · exact c4.symm
    · cases h
theorem val_least : Least rVal wVal := by
  intro b p v q h
  unfold rVal at h
  split at h
  · rename_i hp
    split at h
    · cases h
    · split at h
      · rename_i hc
        simp only [Rs.ok.injEq] at h
        obtain ⟨rfl, rfl⟩ := h
        refine ⟨[UInt8.ofNat (128 - (128 - ((b.getD p 0).toNat : Int))).toNat], ?_, ?_⟩
        · unfold wVal
          simp only
          rw [if_neg (by omega), if_pos ⟨by omega, by omega, trivial, trivial⟩]
        · simp
      · unfold rRef at h
        rw [if_pos hp] at h
        simp only at h
        split at h
        · rename_i hn
          simp only [Rs.ok.injEq] at h
          obtain ⟨rfl, rfl⟩ := h
          obtain ⟨h1, h2⟩ := named_find _ hn
          refine ⟨[UInt8.ofNat (b.getD p 0).toNat], ?_, ?_⟩
          · unfold wVal
            simp only [if_true]
            rw [if_neg (by simp), if_neg (by omega)]
            unfold wHeap
            rw [if_neg (by omega), h2]
            rfl
          · simp
        · split at h
          · cases h
          · rename_i hn hx
            cases hr : rHeap b (p + 1) with
            | ok h' q1 =>
              rw [hr] at h
              simp only [Rs.ok.injEq] at h
              obtain ⟨rfl, rfl⟩ := h
              obtain ⟨u, hu, hl⟩ := heap_least _ _ _ _ hr
              unfold wVal
              simp only [if_true]
              rw [hu]
              refine ⟨_, rfl, ?_⟩
              split
              · simp; omega
              · split <;> simp <;> omega
            | err a w => rw [hr] at h; cases h
  · cases h
theorem small_at {most : Nat} (hm : most < 256) {b : List UInt8} {p v : Nat} (hv : v ≤ most) (ha : At b p [UInt8.ofNat v]) : rSmall b most p = .ok v (p + 1) := by
  obtain ⟨a1, a2, a3⟩ := at_cons ha
  unfold rSmall
  rw [if_pos a1, a2, ofNat_small (by omega), if_neg (by omega)]
theorem field_back : Back rField wField := by
  intro v u h b p ha
  obtain ⟨ty, mu⟩ := v
  unfold wField at h
  simp only at h
  have hmu : ∀ q, At b q [if mu then 1 else 0] → rSmall b 1 q = .ok (if mu then 1 else 0) (q + 1) := fun q hq => by
    cases mu
    · exact small_at (v := 0) (by omega) (by omega) hq
    · exact small_at (v := 1) (by omega) (by omega) hq
  unfold rField rFieldV
  split at h
  · rename_i h6
    cases h
    subst h6
    obtain ⟨a1, a2, a3⟩ := at_cons ha
    rw [if_pos a1, a2, if_pos (by decide)]
    simp only [hmu _ a3, rsMut]
    cases mu <;> rfl
  · split at h
    · rename_i h6 h7
      cases h
      subst h7
      obtain ⟨a1, a2, a3⟩ := at_cons ha
      rw [if_pos a1, a2, if_neg (by decide), if_pos (by decide)]
      simp only [hmu _ a3, rsMut]
      cases mu <;> rfl
    · cases hw : wVal ty with
      | ok x =>
        rw [hw] at h
        cases h
        obtain ⟨a1, a2⟩ := at_append ha
        have hv := val_back _ _ hw _ _ a1
        have hp : p < b.length := by
          unfold rVal at hv
          split at hv
          · assumption
          · cases hv
        have hb : ¬ (b.getD p 0).toNat = 120 ∧ ¬ (b.getD p 0).toNat = 119 := by
          constructor
          · intro hb
            unfold rVal rRef at hv
            rw [if_pos hp, hb] at hv
            simp [hp] at hv
            simp [hname] at hv
          · intro hb
            unfold rVal rRef at hv
            rw [if_pos hp, hb] at hv
            simp [hp] at hv
            simp [hname] at hv
        rw [if_pos hp, if_neg hb.1, if_neg hb.2, hv]
        simp only [hmu _ a2, rsMut, List.length_append, List.length_cons, List.length_nil]
        cases mu <;> (simp; omega)
      | err e => rw [hw] at h; cases h
theorem small_wr {b : List UInt8} {most p v q : Nat} (h : rSmall b most p = .ok v q) : v ≤ most ∧ q = p + 1 := by
  unfold rSmall at h
  split at h
  · split at h
    · cases h
    · simp only [Rs.ok.injEq] at h
      omega
  · cases h
theorem field_least : Least rField wField := by
  intro b p v q h
  unfold rField at h
  cases hr : rFieldV b p with
  | err a w => rw [hr] at h; cases h
  | ok v1 q1 =>
    rw [hr] at h
    simp only at h
    cases hs : rSmall b 1 q1 with
    | err a w => rw [hs] at h; cases h
    | ok n q2 =>
      rw [hs] at h
      simp only [rsMut, Rs.ok.injEq] at h
      obtain ⟨rfl, rfl⟩ := h
      obtain ⟨s1, s2⟩ := small_wr hs
      unfold rFieldV at hr
      split at hr
      · split at hr
        · simp only [Rs.ok.injEq] at hr
          obtain ⟨rfl, rfl⟩ := hr
          exact ⟨_, rfl, by simp; omega⟩
        · split at hr
          · simp only [Rs.ok.injEq] at hr
            obtain ⟨rfl, rfl⟩ := hr
            exact ⟨_, rfl, by simp; omega⟩
          · obtain ⟨u, hu, hl⟩ := val_least _ _ _ _ hr
            unfold wField
            simp only
            have n6 : v1 ≠ ⟨6, false, 0⟩ := by
              rintro rfl
              simp [wVal] at hu
            have n7 : v1 ≠ ⟨7, false, 0⟩ := by
              rintro rfl
              simp [wVal] at hu
            rw [if_neg n6, if_neg n7, hu]
            exact ⟨_, rfl, by simp; omega⟩
      · cases hr
theorem wThen_ok {a b : Wr} {u : List UInt8} (h : wThen a b = .ok u) : ∃ x y, a = .ok x ∧ b = .ok y ∧ u = x ++ y := by
  cases a with
  | ok x =>
    obtain ⟨y, h1, h2⟩ := wCat_ok h
    exact ⟨x, y, rfl, h1, h2⟩
  | err e => cases h
theorem rep_back {α : Type} {r : List UInt8 → Nat → Rs α} {w : α → Wr} (hb : Back r w) {b : List UInt8} : ∀ (l : List α) (u : List UInt8) (p : Nat), wAll w l = .ok u → At b p u → rRep (r b) l.length p = .ok l (p + u.length)
  | [], u, p, h, ha => by cases h; rfl
  | v :: l, u, p, h, ha => by
    obtain ⟨x, y, h1, h2, rfl⟩ := wThen_ok h
    obtain ⟨a1, a2⟩ := at_append ha
    have e1 := hb _ _ h1 _ _ a1
    have e2 := rep_back hb l y _ h2 a2
    rw [List.length_cons, rRep, e1]
    simp only [e2, rsCons, List.length_append, Nat.add_assoc]
theorem list_back {α : Type} {r : List UInt8 → Nat → Rs α} {w : α → Wr} {most : Nat} (hm : most < 2 ^ 32) (hb : Back r w) : Back (fun b p => rList b most (r b) p) (wEach most w) := by
  intro l u h b p ha
  unfold wEach at h
  split at h
  · cases h
  · obtain ⟨x, h1, rfl⟩ := wCat_ok h
    obtain ⟨a1, a2⟩ := at_append ha
    show rList b most (r b) p = _
    unfold rList
    rw [rU32_put a1 (by omega)]
    simp only
    rw [if_neg (by omega), rep_back hb l x _ h1 a2, List.length_append, Nat.add_assoc]
theorem rep_least {α : Type} {r : List UInt8 → Nat → Rs α} {w : α → Wr} (hb : Least r w) {b : List UInt8} : ∀ (n : Nat) (p : Nat) (l : List α) (q : Nat), rRep (r b) n p = .ok l q → l.length = n ∧ ∃ u, wAll w l = .ok u ∧ p + u.length ≤ q
  | 0, p, l, q, h => by
    simp only [rRep, Rs.ok.injEq] at h
    obtain ⟨rfl, rfl⟩ := h
    exact ⟨rfl, [], rfl, by simp⟩
  | n + 1, p, l, q, h => by
    unfold rRep at h
    cases h1 : r b p with
    | err a e => rw [h1] at h; cases h
    | ok v q1 =>
      rw [h1] at h
      simp only at h
      cases h2 : rRep (r b) n q1 with
      | err a e => rw [h2] at h; cases h
      | ok l1 q2 =>
        rw [h2] at h
        simp only [rsCons, Rs.ok.injEq] at h
        obtain ⟨rfl, rfl⟩ := h
        obtain ⟨u, hu, hl⟩ := hb _ _ _ _ h1
        obtain ⟨e1, x, hx, hlx⟩ := rep_least hb n q1 l1 q2 h2
        refine ⟨by simp [e1], u ++ x, ?_, by simp; omega⟩
        rw [wAll, hu, hx]
        rfl
theorem list_least {α : Type} {r : List UInt8 → Nat → Rs α} {w : α → Wr} {most : Nat} (hb : Least r w) : Least (fun b p => rList b most (r b) p) (wEach most w) := by
  intro b p l q h
  have h : rList b most (r b) p = .ok l q := h
  unfold rList at h
  cases h1 : rU32 b p with
  | err a e => rw [h1] at h; cases h
  | ok n q1 =>
    rw [h1] at h
    simp only at h
    split at h
    · cases h
    · rename_i hm
      obtain ⟨e1, x, hx, hlx⟩ := rep_least hb n q1 l q h
      have := rdU_least h1
      unfold wEach
      rw [e1, if_neg hm, hx]
      exact ⟨_, rfl, by simp; omega⟩
def wComp (v : CT) : Wr :=
  if v.kind = 1 then if v.fs.length = 0 then wCat [96] (wThen (wEach 1000 wVal v.ps) (wEach 1000 wVal v.rs)) else .err 4
  else if v.ps.length + v.rs.length = 0 then
    if v.kind = 2 then wCat [95] (wEach 10000 wField v.fs)
    else if v.kind = 3 then match v.fs with
      | [f] => wCat [94] (wField f)
      | _ => .err 4
    else .err 4
  else .err 4
def wSub (v : ST) : Wr :=
  if v.fin = true ∧ v.sup.length = 0 then wComp v.comp
  else wCat [if v.fin then 79 else 80] (wThen (wEach 1000 wIndex v.sup) (wComp v.comp))
def wRec (v : RT) : Wr :=
  match v.types with
  | [t] => wSub t
  | l => wCat [78] (wEach 10000 wSub l)
theorem vals_back : Back rVals (wEach 1000 wVal) := list_back (by decide) val_back
theorem fields_back : Back rFields (wEach 10000 wField) := list_back (by decide) field_back
theorem supers_back : Back rSupers (wEach 1000 wIndex) := list_back (by decide) index_back
theorem vals_least : Least rVals (wEach 1000 wVal) := list_least val_least
theorem fields_least : Least rFields (wEach 10000 wField) := list_least field_least
theorem supers_least : Least rSupers (wEach 1000 wIndex) := list_least index_least
theorem comp_back : Back rComp wComp := by
  intro v u h b p ha
  obtain ⟨kind, ps, rs, fs⟩ := v
  unfold wComp at h
  simp only at h
  split at h
  · rename_i hk
    subst hk
    split at h
    · rename_i hf
      have hf : fs = [] := by cases fs with | nil => rfl | cons a r => simp at hf
      subst hf
      obtain ⟨x, hx, rfl⟩ := wCat_ok h
      obtain ⟨y, z, hy, hz, rfl⟩ := wThen_ok hx
      obtain ⟨a1, a2, a3⟩ := at_cons ha
      have a3 : At b (p + 1) (y ++ z) := a3
      obtain ⟨a4, a5⟩ := at_append a3
      unfold rComp
      rw [if_pos a1, a2, if_pos (by decide)]
      unfold rFunc
      rw [vals_back _ _ hy _ _ a4]
      simp only [vals_back _ _ hz _ _ a5, rsFunc, List.length_append, List.length_cons, List.length_nil, Rs.ok.injEq, true_and]
      omega
    · cases h
  · split at h
    · rename_i hl
      have hps : ps = [] := by cases ps with | nil => rfl | cons a r => simp at hl
      have hrs : rs = [] := by cases rs with | nil => rfl | cons a r => simp at hl
      subst hps hrs
      split at h
      · rename_i hk
        subst hk
        obtain ⟨x, hx, rfl⟩ := wCat_ok h
        obtain ⟨a1, a2, a3⟩ := at_cons ha
        unfold rComp
        rw [if_pos a1, a2, if_neg (by decide), if_pos (by decide), fields_back _ _ hx _ _ a3]
        simp only [rsStruct, List.length_append, List.length_cons, List.length_nil, Rs.ok.injEq, true_and]
        omega
      · split at h
        · rename_i hk
          subst hk
          split at h
          · obtain ⟨x, hx, rfl⟩ := wCat_ok h
            obtain ⟨a1, a2, a3⟩ := at_cons ha
            unfold rComp
            rw [if_pos a1, a2, if_neg (by decide), if_neg (by decide), if_pos (by decide), field_back _ _ hx _ _ a3]
            simp only [rsArray, List.length_append, List.length_cons, List.length_nil, Rs.ok.injEq, true_and]
            omega
          · cases h
        · cases h
    · cases h
theorem comp_least : Least rComp wComp := by
  intro b p v q h
  unfold rComp at h
  split at h
  · split at h
    · unfold rFunc at h
      cases h1 : rVals b (p + 1) with
      | err a w => rw [h1] at h; cases h
      | ok ps q1 =>
        rw [h1] at h
        simp only at h
        cases h2 : rVals b q1 with
        | err a w => rw [h2] at h; cases h
        | ok rs q2 =>
          rw [h2] at h
          simp only [rsFunc, Rs.ok.injEq] at h
          obtain ⟨rfl, rfl⟩ := h
          obtain ⟨u, hu, hl⟩ := vals_least _ _ _ _ h1
          obtain ⟨x, hx, hlx⟩ := vals_least _ _ _ _ h2
          refine ⟨[96] ++ (u ++ x), ?_, by simp; omega⟩
          simp [wComp, hu, hx, wCat, wThen]
    · split at h
      · cases h1 : rFields b (p + 1) with
        | err a w => rw [h1] at h; cases h
        | ok fs q1 =>
          rw [h1] at h
          simp only [rsStruct, Rs.ok.injEq] at h
          obtain ⟨rfl, rfl⟩ := h
          obtain ⟨u, hu, hl⟩ := fields_least _ _ _ _ h1
          refine ⟨[95] ++ u, ?_, by simp; omega⟩
          simp [wComp, hu, wCat]
      · split at h
        · cases h1 : rField b (p + 1) with
          | err a w => rw [h1] at h; cases h
          | ok f q1 =>
            rw [h1] at h
            simp only [rsArray, Rs.ok.injEq] at h
            obtain ⟨rfl, rfl⟩ := h
            obtain ⟨u, hu, hl⟩ := field_least _ _ _ _ h1
            refine ⟨[94] ++ u, ?_, by simp; omega⟩
            simp [wComp, hu, wCat]
        · cases h
  · cases h
theorem sub_back : Back rSub wSub := by
  intro v u h b p ha
  obtain ⟨fin, sup, comp⟩ := v
  unfold wSub at h
  simp only at h
  split at h
  · rename_i hf
    obtain ⟨rfl, hs⟩ := hf
    have hs : sup = [] := by cases sup with | nil => rfl | cons a r => simp at hs
    subst hs
    have hc := comp_back _ _ h _ _ ha
    have hp : p < b.length ∧ (b.getD p 0).toNat ≠ 80 ∧ (b.getD p 0).toNat ≠ 79 := by
      unfold rComp at hc
      split at hc
      · rename_i hp
        refine ⟨hp, ?_, ?_⟩
        · intro hx
          rw [hx] at hc
          simp at hc
        · intro hx
          rw [hx] at hc
          simp at hc
      · cases hc
    unfold rSub
    rw [if_pos hp.1, if_neg hp.2.1, if_neg hp.2.2, hc]
    rfl
  · obtain ⟨x, hx, rfl⟩ := wCat_ok h
    obtain ⟨y, z, hy, hz, rfl⟩ := wThen_ok hx
    obtain ⟨a1, a2, a3⟩ := at_cons ha
    have a3 : At b (p + 1) (y ++ z) := a3
    obtain ⟨a4, a5⟩ := at_append a3
    have hsub : ∀ f, rSubs b f (p + 1) = .ok ⟨f, sup, comp⟩ (p + ([if fin then 79 else 80] ++ (y ++ z) : List UInt8).length) := fun f => by
      unfold rSubs
      rw [supers_back _ _ hy _ _ a4]
      simp only [comp_back _ _ hz _ _ a5, rsSub, List.length_append, List.length_cons, List.length_nil, Rs.ok.injEq, true_and]
      omega
    unfold rSub
    rw [if_pos a1, a2]
    cases fin with
    | true =>
      have e1 : ¬ ((if true = true then 79 else 80 : UInt8).toNat = 80) := by simp
      have e2 : ((if true = true then 79 else 80 : UInt8).toNat = 79) := by simp
      rw [if_neg e1, if_pos e2]; exact hsub true
    | false =>
      have e1 : ((if false = true then 79 else 80 : UInt8).toNat = 80) := by simp
      rw [if_pos e1]; exact hsub false
theorem sub_least : Least rSub wSub := by
  intro b p v q h
  unfold rSub at h
  have key : ∀ f, rSubs b f (p + 1) = .ok v q → ∃ u, wCat [if f then 79 else 80] (wThen (wEach 1000 wIndex v.sup) (wComp v.comp)) = .ok u ∧ v.fin = f ∧ p + u.length ≤ q ∧ p + 1 + (putU v.sup.length).length + (match wComp v.comp with | .ok x => x.length | .err _ => 0) ≤ q := fun f h => by
    unfold rSubs at h
    cases h1 : rSupers b (p + 1) with
    | err a w => rw [h1] at h; cases h
    | ok s q1 =>
      rw [h1] at h
      simp only at h
      cases h2 : rComp b q1 with
      | err a w => rw [h2] at h; cases h
      | ok c q2 =>
        rw [h2] at h
        simp only [rsSub, Rs.ok.injEq] at h
        obtain ⟨rfl, rfl⟩ := h
        obtain ⟨u, hu, hl⟩ := supers_least _ _ _ _ h1
        obtain ⟨x, hx, hlx⟩ := comp_least _ _ _ _ h2
        refine ⟨[if f then 79 else 80] ++ (u ++ x), by simp [hu, hx, wCat, wThen], rfl, by simp; omega, ?_⟩
        simp only [hx]
        have hu2 := hu
        unfold wEach at hu2
        split at hu2
        · cases hu2
        · obtain ⟨y, hy, rfl⟩ := wCat_ok hu2
          simp at hl
          omega
  split at h
  · split at h
    · obtain ⟨u, hu, hf, hl, _⟩ := key false h
      unfold wSub
      rw [if_neg (by rw [hf]; simp), hf]
      exact ⟨u, hu, hl⟩
    · split at h
      · obtain ⟨u, hu, hf, hl, hl2⟩ := key true h
        unfold wSub
        by_cases hs : v.sup.length = 0
        · rw [if_pos ⟨hf, hs⟩]
          obtain ⟨x, hx, rfl⟩ := wCat_ok hu
          obtain ⟨y, z, hy, hz, rfl⟩ := wThen_ok hx
          rw [hz] at hl2 ⊢
          simp only at hl2
          exact ⟨z, rfl, by omega⟩
        · rw [if_neg (fun h => hs h.2), hf]
          exact ⟨u, hu, hl⟩
      · cases h1 : rComp b p with
        | err a w => rw [h1] at h; cases h
        | ok c q1 =>
          rw [h1] at h
          simp only [rsSub, Rs.ok.injEq] at h
          obtain ⟨rfl, rfl⟩ := h
          obtain ⟨u, hu, hl⟩ := comp_least _ _ _ _ h1
          unfold wSub
          simp only [List.length_nil]
          rw [if_pos ⟨trivial, trivial⟩]
          exact ⟨u, hu, hl⟩
  · cases h
theorem types_back : Back rTypes (wEach 10000 wSub) := list_back (by decide) sub_back
theorem types_least : Least rTypes (wEach 10000 wSub) := list_least sub_least
def RT.plain (v : RT) : RT := ⟨v.types, decide (v.types.length ≠ 1)⟩
theorem rec_back {v : RT} {u : List UInt8} (h : wRec v = .ok u) {b : List UInt8} {p : Nat} (ha : At b p u) : rRec b p = .ok v.plain (p + u.length) := by
  obtain ⟨types, exp⟩ := v
  have many : ∀ l, wCat [78] (wEach 10000 wSub l) = .ok u → rRec b p = .ok ⟨l, true⟩ (p + u.length) := fun l h => by
    obtain ⟨x, hx, rfl⟩ := wCat_ok h
    obtain ⟨a1, a2, a3⟩ := at_cons ha
    unfold rRec
    rw [if_pos a1, a2, if_pos (by decide), types_back _ _ hx _ _ a3]
    simp only [rsExp, List.length_append, List.length_cons, List.length_nil, Rs.ok.injEq, true_and]
    omega
  unfold RT.plain
  match types, h with
  | [], h => exact many _ h
  | t :: s :: r, h =>
    have := many _ h
    simpa using this
  | [t], h =>
    have h : wSub t = .ok u := h
    have hs := sub_back _ _ h _ _ ha
    have hp : p < b.length ∧ (b.getD p 0).toNat ≠ 78 := by
      unfold rSub at hs
      split at hs
      · rename_i hp
        refine ⟨hp, ?_⟩
        intro hx
        rw [hx] at hs
        simp at hs
        unfold rComp at hs
        rw [if_pos hp, hx] at hs
        simp [rsSub] at hs
      · cases hs
    unfold rRec
    rw [if_pos hp.1, if_neg hp.2, hs]
    rfl
theorem rec_least {b : List UInt8} {p : Nat} {v : RT} {q : Nat} (h : rRec b p = .ok v q) : (∃ u, wRec v = .ok u ∧ p + u.length ≤ q) ∧ (v.types.length ≠ 1 → v.exp = true) := by
  unfold rRec at h
  split at h
  · split at h
    · cases h1 : rTypes b (p + 1) with
      | err a w => rw [h1] at h; cases h
      | ok l q1 =>
        rw [h1] at h
        simp only [rsExp, Rs.ok.injEq] at h
        obtain ⟨rfl, rfl⟩ := h
        obtain ⟨u, hu, hl⟩ := types_least _ _ _ _ h1
        refine ⟨?_, fun _ => rfl⟩
        unfold wRec
        simp only
        match l, hu with
        | [], hu => exact ⟨[78] ++ u, (congrArg (wCat [78]) hu).trans rfl, by simp; omega⟩
        | t :: s :: r, hu => exact ⟨[78] ++ u, (congrArg (wCat [78]) hu).trans rfl, by simp; omega⟩
        | [t], hu =>
          unfold wEach at hu
          split at hu
          · cases hu
          · obtain ⟨x, hx, rfl⟩ := wCat_ok hu
            unfold wAll at hx
            obtain ⟨y, z, hy, hz, rfl⟩ := wThen_ok hx
            refine ⟨y, hy, ?_⟩
            simp at hl
            omega
    · cases h1 : rSub b p with
      | err a w => rw [h1] at h; cases h
      | ok t q1 =>
        rw [h1] at h
        simp only [rsOne, Rs.ok.injEq] at h
        obtain ⟨rfl, rfl⟩ := h
        obtain ⟨u, hu, hl⟩ := sub_least _ _ _ _ h1
        exact ⟨⟨u, hu, hl⟩, fun h => by simp at h⟩
  · cases h
end Go.Proofs.Ytofbbijagbpicaa.Pi.Q
namespace Go.Proofs.Ytofbbijagbpicaa.Pi.Q
open Go Go.Proofs.Ytofbbijagbpicaa.Pi
set_option linter.unusedVariables false
set_option linter.unusedSimpArgs false
def Agree {α : Type} (k : α → List UInt8 → KR) (w : α → Wr) : Prop := ∀ v u acc, w v = .ok u → acc.length + u.length ≤ 140737488355328 → k v acc = .ok () (acc ++ u)
theorem kPut_ok {u acc : List UInt8} (h : acc.length + u.length ≤ 140737488355328) : kPut u acc = .ok () (acc ++ u) := if_pos h
theorem put_then {u acc x : List UInt8} {g : List UInt8 → KR} (h : acc.length + (u ++ x).length ≤ 140737488355328) (hg : (acc ++ u).length + x.length ≤ 140737488355328 → g (acc ++ u) = .ok () ((acc ++ u) ++ x)) : ((kPut u acc).bind fun _ acc => g acc) = .ok () (acc ++ (u ++ x)) := by
  rw [List.length_append] at h
  rw [kPut_ok (by omega)]
  show g (acc ++ u) = _
  rw [hg (by rw [List.length_append]; omega), List.append_assoc]
theorem then_then {k g : List UInt8 → KR} {u acc x : List UInt8} (h : acc.length + (u ++ x).length ≤ 140737488355328) (hk : acc.length + u.length ≤ 140737488355328 → k acc = .ok () (acc ++ u)) (hg : (acc ++ u).length + x.length ≤ 140737488355328 → g (acc ++ u) = .ok () ((acc ++ u) ++ x)) : ((k acc).bind fun _ acc => g acc) = .ok () (acc ++ (u ++ x)) := by
  rw [List.length_append] at h
  rw [hk (by omega)]
  show g (acc ++ u) = _
  rw [hg (by rw [List.length_append]; omega), List.append_assoc]
theorem index_agree : Agree kIndex wIndex := by
  intro v u acc h hl
  unfold wIndex at h
  unfold kIndex
  split at h
  · rename_i hv
    cases h
    rw [if_pos hv, kPut_ok hl]
  · cases h
theorem heap_agree : Agree kHeap wHeap := by
  intro v u acc h hl
  unfold wHeap at h
  unfold kHeap
  split at h
  · rename_i h0
    split at h
    · rename_i h1
      cases h
      rw [if_pos h0, if_pos h1, kPut_ok hl]
    · cases h
  · rename_i h0
    rw [if_neg h0]
    cases hf : find v absI 0 with
    | some j =>
      rw [hf] at h
      cases h
      exact kPut_ok hl
    | none => rw [hf] at h; cases h
theorem val_agree : Agree kVal wVal := by
  intro v u acc h hl
  unfold wVal at h
  unfold kVal
  split at h
  · rename_i h5
    obtain ⟨x, hx, rfl⟩ := wCat_ok h
    rw [if_pos h5]
    split at hl
    · rename_i hn
      rw [if_pos hn]
      simp only [if_pos hn]
      exact put_then hl (fun hl => heap_agree _ _ _ hx hl)
    · rename_i hn
      rw [if_neg hn]
      simp only [if_neg hn]
      split at hl
      · rename_i h0
        rw [if_pos h0]
        simp only [if_pos h0]
        exact put_then hl (fun hl => heap_agree _ _ _ hx hl)
      · rename_i h0
        rw [if_neg h0]
        simp only [if_neg h0]
        exact heap_agree _ _ _ hx (by simpa using hl)
  · rename_i h5
    rw [if_neg h5]
    split at h
    · rename_i hc
      cases h
      rw [if_pos hc, kPut_ok hl]
    · cases h
theorem field_agree : Agree kField wField := by
  intro v u acc h hl
  unfold wField at h
  unfold kField
  split at h
  · rename_i h6
    cases h
    rw [if_pos h6]
    exact put_then (x := [if v.mu then 1 else 0]) hl (fun hl => kPut_ok hl)
  · rename_i h6
    rw [if_neg h6]
    split at h
    · rename_i h7
      cases h
      rw [if_pos h7]
      exact put_then (x := [if v.mu then 1 else 0]) hl (fun hl => kPut_ok hl)
    · rename_i h7
      rw [if_neg h7]
      cases hw : wVal v.ty with
      | ok x =>
        rw [hw] at h
        cases h
        exact then_then (k := kVal v.ty) (u := x) (x := [if v.mu then 1 else 0]) hl (fun hl => val_agree _ _ _ hw hl) (fun hl => kPut_ok hl)
      | err e => rw [hw] at h; cases h
theorem all_agree {α : Type} {k : α → List UInt8 → KR} {w : α → Wr} (hk : Agree k w) : ∀ (l : List α) (u acc : List UInt8), wAll w l = .ok u → acc.length + u.length ≤ 140737488355328 → kAll k l acc = .ok () (acc ++ u)
  | [], u, acc, h, hl => by cases h; simp [kAll]
  | v :: l, u, acc, h, hl => by
    obtain ⟨x, y, h1, h2, rfl⟩ := wThen_ok h
    exact then_then hl (fun hl => hk _ _ _ h1 hl) (fun hl => all_agree hk l y _ h2 hl)
theorem each_agree {α : Type} {k : α → List UInt8 → KR} {w : α → Wr} {most : Nat} (hk : Agree k w) : Agree (kEach most k) (wEach most w) := by
  intro l u acc h hl
  unfold wEach at h
  unfold kEach
  split at h
  · cases h
  · rename_i hm
    obtain ⟨x, h1, rfl⟩ := wCat_ok h
    rw [if_neg hm]
    exact put_then hl (fun hl => all_agree hk l x _ h1 hl)
theorem comp_agree : Agree kComp wComp := by
  intro v u acc h hl
  obtain ⟨kind, ps, rs, fs⟩ := v
  unfold wComp at h
  unfold kComp
  simp only at h ⊢
  split at h
  · rename_i hk
    subst hk
    split at h
    · rename_i hf
      obtain ⟨x, hx, rfl⟩ := wCat_ok h
      obtain ⟨y, z, hy, hz, rfl⟩ := wThen_ok hx
      have e1 : kMust ((fs.length : Int) == 0) acc = .ok () acc := by
        have : ((fs.length : Int) == 0) = true := by simp [hf]
        rw [this]; rfl
      show ((kMust ((fs.length : Int) == 0) acc).bind fun _ acc => (kPut [96] acc).bind fun _ acc => (kVals ps acc).bind fun _ acc => kVals rs acc) = _
      rw [e1]
      exact put_then hl (fun hl => then_then hl (fun hl => each_agree val_agree _ _ _ hy hl) (fun hl => each_agree val_agree _ _ _ hz hl))
    · cases h
  · rename_i hk
    split at h
    · rename_i hs
      have e1 : kMust (kind == 1 || ((ps.length : Int) + rs.length == 0)) acc = .ok () acc := by
        have : ((ps.length : Int) + rs.length == 0) = true := by
          rw [beq_iff_eq]
          omega
        rw [this, Bool.or_true]; rfl
      rw [e1]
      show (if kind = 1 then _ else _) = _
      rw [if_neg hk]
      split at h
      · rename_i h2
        obtain ⟨x, hx, rfl⟩ := wCat_ok h
        rw [if_pos h2]
        exact put_then hl (fun hl => each_agree field_agree _ _ _ hx hl)
      · rename_i h2
        rw [if_neg h2]
        split at h
        · rename_i h3
          rw [if_pos h3]
          split at h
          · obtain ⟨x, hx, rfl⟩ := wCat_ok h
            exact put_then hl (fun hl => field_agree _ _ _ hx hl)
          · cases h
        · cases h
    · cases h
theorem sub_agree : Agree kSub wSub := by
  intro v u acc h hl
  unfold wSub at h
  unfold kSub
  split at h
  · rename_i hf
    rw [if_pos ⟨hf.1, by omega⟩]
    exact comp_agree _ _ _ h hl
  · rename_i hf
    obtain ⟨x, hx, rfl⟩ := wCat_ok h
    obtain ⟨y, z, hy, hz, rfl⟩ := wThen_ok hx
    rw [if_neg (fun h => hf ⟨h.1, by omega⟩)]
    have e1 : (if v.fin = true then kPut [79] acc else kPut [80] acc) = kPut [if v.fin then 79 else 80] acc := by split <;> rfl
    rw [e1]
    exact put_then hl (fun hl => then_then hl (fun hl => each_agree index_agree _ _ _ hy hl) (fun hl => comp_agree _ _ _ hz hl))
theorem rec_agree : Agree kRec wRec := by
  intro v u acc h hl
  obtain ⟨types, exp⟩ := v
  have many : ∀ l, wCat [78] (wEach 10000 wSub l) = .ok u → ((kPut [78] acc).bind fun _ acc => kEach 10000 kSub l acc) = .ok () (acc ++ u) := fun l h => by
    obtain ⟨x, hx, rfl⟩ := wCat_ok h
    exact put_then hl (fun hl => each_agree sub_agree _ _ _ hx hl)
  match types, h with
  | [], h => exact many _ h
  | t :: s :: r, h => exact many _ h
  | [t], h => exact sub_agree _ _ _ h hl
end Go.Proofs.Ytofbbijagbpicaa.Pi.Q
namespace Go.Proofs.Ytofbbijagbpicaa.Pi.Q
open Go Go.Proofs.Ytofbbijagbpicaa.Pi
set_option linter.unusedVariables false
set_option linter.unusedSimpArgs false
set_option maxRecDepth 100000
attribute [local congr] ite_congr
def Errs {α : Type} (r : Nat → Rs α) : Prop := ∀ p a w, r p = .err a w → w ≠ 0
theorem u32_errs {b : List UInt8} : Errs (rU32 b) := fun p a w h => rdU_err h
theorem index_errs {b : List UInt8} : Errs (rIndex b) := by
  intro p a w h
  unfold rIndex at h
  cases hr : rU32 b p with
  | ok n q =>
    rw [hr] at h
    simp only at h
    split at h
    · cases h; decide
    · cases h
  | err c e => rw [hr] at h; cases h; exact u32_errs _ _ _ hr
theorem heap_errs {b : List UInt8} : Errs (rHeap b) := by
  intro p a w h
  unfold rHeap at h
  split at h
  · split at h
    · cases h
    · unfold rS33 at h
      cases hr : rdS b 33 b.length p with
      | ok n q =>
        rw [hr] at h
        simp only at h
        split at h
        · cases h; decide
        · split at h
          · cases h; decide
          · cases h
      | err c e => rw [hr] at h; cases h; exact rdS_err hr
  · cases h; decide
theorem val_errs {b : List UInt8} : Errs (rVal b) := by
  intro p a w h
  unfold rVal at h
  split at h
  · rename_i hp
    split at h
    · cases h; decide
    · split at h
      · cases h
      · unfold rRef at h
        rw [if_pos hp] at h
        simp only at h
        split at h
        · cases h
        · split at h
          · cases h; decide
          · cases hr : rHeap b (p + 1) with
            | ok n q => rw [hr] at h; cases h
            | err c e => rw [hr] at h; cases h; exact heap_errs _ _ _ hr
  · cases h; decide
theorem small_errs {b : List UInt8} {most : Nat} : Errs (rSmall b most) := by
  intro p a w h
  unfold rSmall at h
  split at h
  · split at h
    · cases h; decide
    · cases h
  · cases h; decide
theorem field_errs {b : List UInt8} : Errs (rField b) := by
  intro p a w h
  unfold rField at h
  cases hr : rFieldV b p with
  | ok v q =>
    rw [hr] at h
    simp only at h
    cases hs : rSmall b 1 q with
    | ok n q2 => rw [hs] at h; cases h
    | err c e => rw [hs] at h; cases h; exact small_errs _ _ _ hs
  | err c e =>
    rw [hr] at h; cases h
    unfold rFieldV at hr
    split at hr
    · split at hr
      · cases hr
      · split at hr
        · cases hr
        · exact val_errs _ _ _ hr
    · cases hr; decide
theorem rep_errs {α : Type} {r : Nat → Rs α} (hr : Errs r) : ∀ n, Errs (rRep r n)
  | 0, p, a, w, h => by cases h
  | n + 1, p, a, w, h => by
    unfold rRep at h
    cases h1 : r p with
    | ok v q =>
      rw [h1] at h
      simp only at h
      cases h2 : rRep r n q with
      | ok l q2 => rw [h2] at h; cases h
      | err c e => rw [h2] at h; cases h; exact rep_errs hr n _ _ _ h2
    | err c e => rw [h1] at h; cases h; exact hr _ _ _ h1
theorem list_errs {α : Type} {b : List UInt8} {most : Nat} {r : Nat → Rs α} (hr : Errs r) : Errs (rList b most r) := by
  intro p a w h
  unfold rList at h
  cases h1 : rU32 b p with
  | ok n q =>
    rw [h1] at h
    simp only at h
    split at h
    · cases h; decide
    · exact rep_errs hr _ _ _ _ h
  | err c e => rw [h1] at h; cases h; exact u32_errs _ _ _ h1
theorem comp_errs {b : List UInt8} : Errs (rComp b) := by
  intro p a w h
  unfold rComp at h
  split at h
  · split at h
    · unfold rFunc at h
      cases h1 : rVals b (p + 1) with
      | ok v q =>
        rw [h1] at h
        simp only at h
        cases h2 : rVals b q with
        | ok l q2 => rw [h2] at h; cases h
        | err c e => rw [h2] at h; cases h; exact list_errs val_errs _ _ _ h2
      | err c e => rw [h1] at h; cases h; exact list_errs val_errs _ _ _ h1
    · split at h
      · cases h1 : rFields b (p + 1) with
        | ok v q => rw [h1] at h; cases h
        | err c e => rw [h1] at h; cases h; exact list_errs field_errs _ _ _ h1
      · split at h
        · cases h1 : rField b (p + 1) with
          | ok v q => rw [h1] at h; cases h
          | err c e => rw [h1] at h; cases h; exact field_errs _ _ _ h1
        · cases h; decide
  · cases h; decide
theorem sub_errs {b : List UInt8} : Errs (rSub b) := by
  intro p a w h
  have key : ∀ f s q, rsSub f s (rComp b q) = .err a w → w ≠ 0 := fun f s q h => by
    cases h1 : rComp b q with
    | ok v q => rw [h1] at h; cases h
    | err c e => rw [h1] at h; cases h; exact comp_errs _ _ _ h1
  have key2 : ∀ f, rSubs b f (p + 1) = .err a w → w ≠ 0 := fun f h => by
    unfold rSubs at h
    cases h1 : rSupers b (p + 1) with
    | ok v q => rw [h1] at h; exact key _ _ _ h
    | err c e => rw [h1] at h; cases h; exact list_errs index_errs _ _ _ h1
  unfold rSub at h
  split at h
  · split at h
    · exact key2 _ h
    · split at h
      · exact key2 _ h
      · exact key _ _ _ h
  · cases h; decide
theorem rec_errs {b : List UInt8} : Errs (rRec b) := by
  intro p a w h
  unfold rRec at h
  split at h
  · split at h
    · cases h1 : rTypes b (p + 1) with
      | ok v q => rw [h1] at h; cases h
      | err c e => rw [h1] at h; cases h; exact list_errs sub_errs _ _ _ h1
    · cases h1 : rSub b p with
      | ok v q => rw [h1] at h; cases h
      | err c e => rw [h1] at h; cases h; exact sub_errs _ _ _ h1
  · cases h; decide
theorem rRec_le {b : List UInt8} {p q : Nat} {v : RT} (h : rRec b p = .ok v q) : q ≤ b.length := by
  unfold rRec at h
  split at h
  · split at h
    · cases h1 : rTypes b (p + 1) with
      | ok v q => rw [h1] at h; cases h; exact rTypes_le h1
      | err c e => rw [h1] at h; cases h
    · cases h1 : rSub b p with
      | ok v q => rw [h1] at h; cases h; exact rSub_le h1
      | err c e => rw [h1] at h; cases h
  · cases h
theorem BS_shut {u : List UInt8} (h : u ≠ []) : shutP 1 (bytes u) = BS false u := by
  cases u with
  | nil => exact absurd rfl h
  | cons c r => rfl
theorem least_true {b : List UInt8} {z : Bool} (hb : b.length ≤ 140737488355328) {at_ : Int} {H : Heap} : run (C k_ratchetlaw08_EntryLeast [BS z b, .int .i64 at_]) H = some (.ok (.bool true) H) := by
  have a7 := fun K => own_RecType (H := K) (b := b) (z := z) (by omega) (at_ := at_)
  rw [ratchetlaw08_EntryLeast_eq]
  unfold atPl at a7
  by_cases h1 : at_ < 0 ∨ (b.length : Int) < at_
  · simp only [if_pos h1, encR, zR, List.map_nil, shutP_nil] at a7
    simp (contextual := true) (dsimp := false) (disch := omega) only [↓goDown, goUp, List.length_cons, List.length_nil, List.map_cons, List.map_nil, List.take_succ_cons, List.take_zero, List.drop_succ_cons, List.drop_zero, List.drop_nil, List.take_nil, List.cons_append, List.nil_append, List.append_nil, List.set_cons_zero, List.set_cons_succ, List.all_cons, List.all_nil, ↓reduceIte, reduceCtorEq, ge_iff_le, gt_iff_lt, eq_self_iff_true, beq_self_eq_true, beq_iff_eq, bne_iff_ne, ne_eq, ite_not, Int.reduceEq, Option.getD_some, Option.getD_none, ite_self, Nat.reduceAdd, Nat.reduceSub, Nat.reduceMul, Nat.reduceLeDiff, Nat.reduceEqDiff, Nat.reduceBEq, Nat.reduceBNe, Int.reduceLT, Int.reduceLE, Int.reduceAdd, Int.reduceSub, Int.reduceMul, Int.reduceNeg, Int.reduceNe, Int.reduceBEq, Int.reduceBNe, Int.reduceToNat, a7, awake_is]
  · simp only [if_neg h1] at a7
    cases hr : rRec b at_.toNat with
    | err a w =>
      have hw : ¬ (w : Int) = 0 := by have := rec_errs _ _ _ hr; omega
      simp only [hr, outR, encR, zR, List.map_nil, shutP_nil] at a7
      simp (contextual := true) (dsimp := false) (disch := omega) only [↓goDown, goUp, List.length_cons, List.length_nil, List.map_cons, List.map_nil, List.take_succ_cons, List.take_zero, List.drop_succ_cons, List.drop_zero, List.drop_nil, List.take_nil, List.cons_append, List.nil_append, List.append_nil, List.set_cons_zero, List.set_cons_succ, List.all_cons, List.all_nil, ↓reduceIte, reduceCtorEq, ge_iff_le, gt_iff_lt, eq_self_iff_true, beq_self_eq_true, beq_iff_eq, bne_iff_ne, ne_eq, ite_not, Int.reduceEq, Option.getD_some, Option.getD_none, ite_self, Nat.reduceAdd, Nat.reduceSub, Nat.reduceMul, Nat.reduceLeDiff, Nat.reduceEqDiff, Nat.reduceBEq, Nat.reduceBNe, Int.reduceLT, Int.reduceLE, Int.reduceAdd, Int.reduceSub, Int.reduceMul, Int.reduceNeg, Int.reduceNe, Int.reduceBEq, Int.reduceBNe, Int.reduceToNat, a7, hw, awake_is]
    | ok v q =>
      obtain ⟨⟨u, hu, hl⟩, he⟩ := rec_least hr
      have hfit := rRec_fit hr
      have hq := rRec_le hr
      have hk := rec_agree v u [] hu (by simp; omega)
      rw [List.nil_append] at hk
      have hp := fun K => put_rec (H := K) hfit (by rw [hk]; intro t l h; cases h) (by rw [hk]; intro h; cases h)
      simp only [hk, outW] at hp
      have hb2 := rec_back hu (at_self (u := u))
      have hne : u ≠ [] := by
        rintro rfl
        simp [rRec] at hb2
      rw [BS_shut hne] at hp
      have a8 := fun K => own_RecType (H := K) (b := u) (z := false) (by omega) (at_ := 0)
      unfold atPl at a8
      rw [if_neg (by omega)] at a8
      simp only [Int.toNat_zero, hb2, outR, Nat.zero_add] at a8
      have hexp : v.plain = ⟨v.types, (if v.exp then decide (v.types.length ≠ 1) else false)⟩ := by
        unfold RT.plain
        congr 1
        by_cases h : v.types.length = 1
        · simp [h]
        · simp [h, he h]
      have hs := fun K => sameRec_self (H := K) (v := v.plain) hfit
      simp only [hr, outR] at a7
      have c1 : ¬ ((q : Int) - at_ < u.length) := by omega
      simp only [encR, RT.plain] at a7 hp a8 hs
      have el : ∀ K, run (lnL (BS false u)) K = some (.ok (.int .i64 u.length) K) := fun K => by
        show some (Out.ok (PV.int .i64 ((bytes u).length : Nat)) K) = _
        simp [bytes]
      by_cases hlen : v.types.length = 1
      · have e5 : (((v.types.length : Nat) : Int) != 1) = false := by simp [hlen]
        have e6 : decide (v.types.length ≠ 1) = false := by simp [hlen]
        rw [e6] at a8 hs
        cases hx : v.exp <;> rw [hx] at a7 hp <;>
          simp (contextual := true) (dsimp := false) (disch := omega) only [↓goDown, goUp, List.length_cons, List.length_nil, List.map_cons, List.map_nil, List.take_succ_cons, List.take_zero, List.drop_succ_cons, List.drop_zero, List.drop_nil, List.take_nil, List.cons_append, List.nil_append, List.append_nil, List.set_cons_zero, List.set_cons_succ, List.all_cons, List.all_nil, ↓reduceIte, reduceCtorEq, ge_iff_le, gt_iff_lt, eq_self_iff_true, beq_self_eq_true, beq_iff_eq, bne_iff_ne, ne_eq, ite_not, Int.reduceEq, Option.getD_some, Option.getD_none, ite_self, Nat.reduceAdd, Nat.reduceSub, Nat.reduceMul, Nat.reduceLeDiff, Nat.reduceEqDiff, Nat.reduceBEq, Nat.reduceBNe, Int.reduceLT, Int.reduceLE, Int.reduceAdd, Int.reduceSub, Int.reduceMul, Int.reduceNeg, Int.reduceNe, Int.reduceBEq, Int.reduceBNe, Int.reduceToNat, a7, hp, a8, hs, List.length_map, ln_P, c1, e5, neq_int, eql_int, awake_is, cells_P, isCell_P, low_P, stripC_P, strip_P, isTup_P, bne_self_eq_false]
      · have e5 : (((v.types.length : Nat) : Int) != 1) = true := by simp; omega
        have e6 : decide (v.types.length ≠ 1) = true := by simp [hlen]
        rw [e6] at a8 hs
        rw [he hlen] at a7 hp
        simp (contextual := true) (dsimp := false) (disch := omega) only [↓goDown, goUp, List.length_cons, List.length_nil, List.map_cons, List.map_nil, List.take_succ_cons, List.take_zero, List.drop_succ_cons, List.drop_zero, List.drop_nil, List.take_nil, List.cons_append, List.nil_append, List.append_nil, List.set_cons_zero, List.set_cons_succ, List.all_cons, List.all_nil, ↓reduceIte, reduceCtorEq, ge_iff_le, gt_iff_lt, eq_self_iff_true, beq_self_eq_true, beq_iff_eq, bne_iff_ne, ne_eq, ite_not, Int.reduceEq, Option.getD_some, Option.getD_none, ite_self, Nat.reduceAdd, Nat.reduceSub, Nat.reduceMul, Nat.reduceLeDiff, Nat.reduceEqDiff, Nat.reduceBEq, Nat.reduceBNe, Int.reduceLT, Int.reduceLE, Int.reduceAdd, Int.reduceSub, Int.reduceMul, Int.reduceNeg, Int.reduceNe, Int.reduceBEq, Int.reduceBNe, Int.reduceToNat, a7, hp, a8, hs, List.length_map, ln_P, c1, e5, neq_int, eql_int, awake_is, cells_P, isCell_P, low_P, stripC_P, strip_P, isTup_P, bne_self_eq_false]
end Go.Proofs.Ytofbbijagbpicaa.Pi.Q
