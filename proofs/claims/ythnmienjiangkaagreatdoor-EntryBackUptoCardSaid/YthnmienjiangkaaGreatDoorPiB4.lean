/- What the law rests on, part 5 of 5: a reading of the program's code over told data, and what it comes to. -/
import Derived.Test.YthnmienjiangkaaGreatDoorPiB3
set_option linter.unusedVariables false
set_option linter.unusedSimpArgs false
set_option maxRecDepth 100000
namespace Go.Proofs.YthnmienjiangkaaGreatDoor.Pi.Q
open Go Go.Proofs.YthnmienjiangkaaGreatDoor.Pi
attribute [local congr] ite_congr
variable {c : Nat} {H : Heap} {L : List Box} {b : List UInt8} {f : Int}
def gFlag (t : Bool) (s : WS) : GR := gPut [if t then 1 else 0] s
def gField (v : FT) (s : WS) : GR := (gVal true v.ty s).bind fun _ s => gFlag v.mu s
def gAll {α : Type} (one : α → WS → GR) : List α → WS → GR
  | [], s => .ok () s
  | v :: r, s => (one v s).bind fun _ s => gAll one r s
def gVals (l : List VT) (s : WS) : GR := (gMany l.length 1000 s).bind fun _ s => gAll (gVal false) l s
def CT.wide (v : CT) : Prop := (∀ a ∈ v.ps, a.heap ≤ 9223372036854775807) ∧ (∀ a ∈ v.rs, a.heap ≤ 9223372036854775807) ∧ ∀ a ∈ v.fs, a.ty.heap ≤ 9223372036854775807
def gComp (v : CT) (s : WS) : GR :=
  if v.kind = 1 then (gPut [96] (gMust ((v.fs.length : Int) == 0) 4 s)).bind fun _ s => (gVals v.ps s).bind fun _ s => gVals v.rs s
  else if v.kind = 2 then (gPut [95] (gMust (((v.ps.length : Int) == 0) && ((v.rs.length : Int) == 0)) 4 s)).bind fun _ s => (gMany v.fs.length 10000 s).bind fun _ s => gAll gField v.fs s
  else if v.kind = 3 then (gPut [94] (gMust ((((v.ps.length : Int) == 0) && ((v.rs.length : Int) == 0)) && ((v.fs.length : Int) == 1)) 4 s)).bind fun _ s => gAll gField v.fs s
  else gAll gField v.fs (gMust false 4 s)
def gSub (v : ST) (s : WS) : GR :=
  if v.fin = true ∧ ¬ (0 < (v.sup.length : Int)) then gComp v.comp s
  else (gPut [if v.fin then 79 else 80] s).bind fun _ s => (gMany v.sup.length 1000 s).bind fun _ s => (gAll gIndex v.sup s).bind fun _ s => gComp v.comp s
def ST.wide (v : ST) : Prop := (∀ a ∈ v.sup, a ≤ 9223372036854775807) ∧ v.comp.wide
end Go.Proofs.YthnmienjiangkaaGreatDoor.Pi.Q
namespace Go.Proofs.YthnmienjiangkaaGreatDoor.Pi.Q
open Go Go.Proofs.YthnmienjiangkaaGreatDoor.Pi
attribute [local congr] ite_congr
variable {c : Nat} {H : Heap} {L : List Box} {b : List UInt8} {f : Int}
def ukt (v : LT) (s : WS) : GR :=
  (gPut [if v.has then (if v.wide then 5 else 1) else (if v.wide then 4 else 0)] s).bind fun _ s =>
  (gPut (putU v.min.toNat) (gMust (v.wide || decide (v.min < 4294967296)) 4 s)).bind fun _ s =>
  let s := gMust (if v.wide = true ∨ v.max < 4294967296 then (v.has || (v.max == 0)) else false) 4 s
  if v.has = true then gPut (putU v.max.toNat) s else .ok () s
end Go.Proofs.YthnmienjiangkaaGreatDoor.Pi.Q
namespace Go.Proofs.YthnmienjiangkaaGreatDoor.Pi.Q
open Go Go.Proofs.YthnmienjiangkaaGreatDoor.Pi
attribute [local congr] ite_congr
variable {c : Nat} {H : Heap} {L : List Box} {b : List UInt8} {f : Int}
def gRec (v : RT) : GR :=
  if (v.types.length : Int) = 1 then gAll gSub v.types ⟨[], 0⟩
  else (gPut [78] ⟨[], 0⟩).bind fun _ s => (gMany v.types.length 10000 s).bind fun _ s => gAll gSub v.types s
def RT.wide (v : RT) : Prop := ∀ t ∈ v.types, t.wide
end Go.Proofs.YthnmienjiangkaaGreatDoor.Pi.Q
namespace Go.Proofs.YthnmienjiangkaaGreatDoor.Pi.Q
open Go Go.Proofs.YthnmienjiangkaaGreatDoor.Pi
def At (b : List UInt8) (p : Nat) (u : List UInt8) : Prop := p ≤ b.length ∧ ∃ y, b.drop p = u ++ y
theorem u50 {b : List UInt8} {p : Nat} {c : UInt8} {u : List UInt8} (h : At b p (c :: u)) : p < b.length ∧ b.getD p 0 = c ∧ At b (p + 1) u := by
  obtain ⟨h1, y, h2⟩ := h
  have hl : p < b.length := by
    have := congrArg List.length h2
    simp at this
    omega
  have hd := List.drop_eq_getElem_cons hl
  rw [hd, List.cons_append, List.cons.injEq] at h2
  refine ⟨hl, ?_, by omega, y, h2.2⟩
  simp [hl, h2.1]
theorem u5x {b : List UInt8} {p : Nat} {u v : List UInt8} (h : At b p (u ++ v)) : At b p u ∧ At b (p + u.length) v := by
  obtain ⟨h1, y, h2⟩ := h
  have hl : p + (u ++ v).length ≤ b.length := by
    have := congrArg List.length h2
    simp at this
    simp
    omega
  refine ⟨⟨h1, v ++ y, by rw [h2, List.append_assoc]⟩, by simp at hl; omega, y, ?_⟩
  rw [← List.drop_drop, h2, List.append_assoc, List.drop_left]
theorem at_mid {x u y : List UInt8} : At (x ++ u ++ y) x.length u := ⟨by simp, y, by rw [List.append_assoc, List.drop_left]⟩
theorem at_le {b : List UInt8} {p : Nat} {u : List UInt8} (h : At b p u) : p + u.length ≤ b.length := by
  obtain ⟨h1, y, h2⟩ := h
  have := congrArg List.length h2
  simp at this
  omega
theorem u2v {n : Nat} (h : n < 256) : (UInt8.ofNat n).toNat = n := by rw [UInt8.toNat_ofNat', Nat.mod_eq_of_lt h]
theorem pow7 (i : Nat) : 2 ^ (7 * (i + 1)) = 2 ^ (7 * i) * 128 := by rw [Nat.mul_add, Nat.pow_add]
theorem us2 {b : List UInt8} {B : Nat} : ∀ (f i n p m : Nat), At b p (putU m) → 7 * i < B → m * 2 ^ (7 * i) < 2 ^ B → m < 128 ^ (f + 1) → lebU b B b.length (f + 1) i n p = .ok (n + m * 2 ^ (7 * i)) (p + (putU m).length)
  | f, i, n, p, m, ha, hi, hm, hf => by
    have hz : ∀ k : Nat, 0 < 2 ^ k := fun k => Nat.pow_pos (by omega)
    rw [putU] at ha ⊢
    unfold lebU
    by_cases h1 : m < 128
    · rw [if_pos h1] at ha ⊢
      obtain ⟨a1, a2, a3⟩ := u50 ha
      simp only [if_pos a1, a2, u2v (show m < 256 by omega)]
      have h2 : ¬ (B < 7 * i + 7 ∧ m / 2 ^ (B - 7 * i) ≠ 0) := by
        rintro ⟨h3, h4⟩
        apply h4
        apply Nat.div_eq_of_lt
        have e : 2 ^ B = 2 ^ (B - 7 * i) * 2 ^ (7 * i) := by rw [← Nat.pow_add, Nat.sub_add_cancel (by omega)]
        rw [e] at hm
        exact Nat.lt_of_mul_lt_mul_right hm
      rw [if_neg h2, if_pos h1]
      simp
    · rw [if_neg h1] at ha ⊢
      obtain ⟨a1, a2, a3⟩ := u50 ha
      have hge : 128 * 2 ^ (7 * i) ≤ m * 2 ^ (7 * i) := Nat.mul_le_mul_right _ (by omega)
      have e7 : 128 * 2 ^ (7 * i) = 2 ^ (7 * i + 7) := by rw [Nat.pow_add, Nat.mul_comm]
      have hB : 7 * i + 7 < B := by
        by_cases h : 7 * i + 7 < B
        · exact h
        · have : 2 ^ B ≤ 2 ^ (7 * i + 7) := Nat.pow_le_pow_right (by omega) (by omega)
          omega
      simp only [if_pos a1, a2, u2v (show m % 128 + 128 < 256 by omega)]
      rw [if_neg (by omega), if_neg (by omega)]
      have e1 : (m % 128 + 128) % 128 = m % 128 := by omega
      have hd : m = m % 128 + 128 * (m / 128) := by omega
      have e2 : m / 128 * 2 ^ (7 * (i + 1)) + m % 128 * 2 ^ (7 * i) = m * 2 ^ (7 * i) := by
        rw [pow7]
        conv => rhs; rw [hd, Nat.add_mul]
        rw [Nat.mul_comm (2 ^ (7 * i)) 128, ← Nat.mul_assoc, Nat.mul_comm (m / 128) 128]
        omega
      cases f with
      | zero => simp at hf; omega
      | succ f =>
      rw [e1, us2 f (i + 1) (n + m % 128 * 2 ^ (7 * i)) (p + 1) (m / 128) a3 (by omega) (by omega) (by
        have : 128 ^ (f + 1 + 1) = 128 ^ (f + 1) * 128 := Nat.pow_succ ..
        exact Nat.div_lt_of_lt_mul (by omega))]
      simp only [List.length_cons, Rs.ok.injEq]
      omega
theorem uuc {b : List UInt8} {B p n : Nat} (ha : At b p (putU n)) (hB : 0 < B) (hB' : B ≤ 64) (hn : n < 2 ^ B) : rdU b B b.length p = .ok n (p + (putU n).length) := by
  have : 2 ^ B ≤ 2 ^ 64 := Nat.pow_le_pow_right (by omega) hB'
  have h := us2 (B := B) 9 0 0 p n ha (by omega) (by simpa using hn) (by omega)
  unfold rdU
  simpa using h
theorem ug2 {b : List UInt8} {p n : Nat} (ha : At b p (putU n)) (hn : n < 2 ^ 32) : rU32 b p = .ok n (p + (putU n).length) := uuc ha (by decide) (by decide) hn
theorem uro {b : List UInt8} {B : Nat} (hB : B ≤ 64) : ∀ (f i n p : Nat) (m : Int), At b p (putS m) → 7 * i < B → n < 2 ^ (7 * i) → -(2 ^ (B - 7 * i - 1) : Nat) ≤ m → m < (2 ^ (B - 7 * i - 1) : Nat) → -(64 * 128 ^ f) ≤ m → m < 64 * 128 ^ f →
    lebS b B b.length (f + 1) i n p = .ok (IntKind.i64.wrap (n + m * 2 ^ (7 * i))) (p + (putS m).length)
  | f, i, n, p, m, ha, hi, hn, hm, hm', hf, hf' => by
    have hz : ∀ k : Nat, 0 < 2 ^ k := fun k => Nat.pow_pos (by omega)
    rw [putS] at ha ⊢
    unfold lebS
    by_cases h1 : -64 ≤ m ∧ m ≤ 63
    · rw [if_pos h1] at ha ⊢
      obtain ⟨a1, a2, a3⟩ := u50 ha
      have hlt : (m % 128).toNat < 128 := by omega
      simp only [if_pos a1, a2, u2v (show (m % 128).toNat < 256 by omega)]
      have h2 : ¬ (B < 7 * i + 7 ∧ ¬ okS (B - 7 * i) (m % 128).toNat) := by
        rintro ⟨h3, h4⟩
        apply h4
        unfold okS
        refine ⟨hlt, ?_⟩
        have : B - 7 * i = 1 ∨ B - 7 * i = 2 ∨ B - 7 * i = 3 ∨ B - 7 * i = 4 ∨ B - 7 * i = 5 ∨ B - 7 * i = 6 := by omega
        rcases this with h | h | h | h | h | h <;> rw [h] at hm hm' ⊢ <;> simp at hm hm' ⊢ <;> omega
      rw [if_neg h2, if_pos hlt]
      have h5 : lastS (m % 128).toNat (7 * i) = m * 2 ^ (7 * i) := by
        unfold lastS
        congr 1
        split <;> omega
      rw [h5]
      simp
    · rw [if_neg h1] at ha ⊢
      obtain ⟨a1, a2, a3⟩ := u50 ha
      have hB7 : 7 * i + 7 < B := by
        by_cases h : 7 * i + 7 < B
        · exact h
        · have : 2 ^ (B - 7 * i - 1) ≤ 2 ^ 6 := Nat.pow_le_pow_right (by omega) (by omega)
          omega
      simp only [if_pos a1, a2, u2v (show (m % 128).toNat + 128 < 256 by omega)]
      rw [if_neg (by omega), if_neg (by omega)]
      have e1 : ((m % 128).toNat + 128) % 128 = (m % 128).toNat := by omega
      cases f with
      | zero => simp at hf hf'; omega
      | succ f =>
      have e3 : 2 ^ (B - 7 * i - 1) = 2 ^ (B - 7 * (i + 1) - 1) * 128 := by
        rw [show B - 7 * i - 1 = (B - 7 * (i + 1) - 1) + 7 by omega, Nat.pow_add]
      have e4 : (128 : Int) ^ (f + 1) = 128 ^ f * 128 := Int.pow_succ ..
      have h5 : (m % 128).toNat * 2 ^ (7 * i) ≤ 127 * 2 ^ (7 * i) := Nat.mul_le_mul_right _ (by omega)
      have hp7 := pow7 i
      rw [e1, uro hB f (i + 1) (n + (m % 128).toNat * 2 ^ (7 * i)) (p + 1) (m / 128) a3 (by omega) (by omega) (by omega) (by omega) (by omega) (by omega)]
      have e5 : (((n + (m % 128).toNat * 2 ^ (7 * i) : Nat) : Int) + m / 128 * 2 ^ (7 * (i + 1))) = n + m * 2 ^ (7 * i) := by
        have h7 : (2 : Int) ^ (7 * (i + 1)) = 2 ^ (7 * i) * 128 := by rw [Nat.mul_add, Int.pow_add]; rfl
        have h8 : (((m % 128).toNat : Nat) : Int) = m % 128 := Int.toNat_of_nonneg (by omega)
        have h9 : m = m % 128 + m / 128 * 128 := by omega
        rw [Int.natCast_add, Int.natCast_mul, h8, h7]
        conv => rhs; rw [h9, Int.add_mul]
        have : ((2 ^ (7 * i) : Nat) : Int) = 2 ^ (7 * i) := by simp
        rw [this, Int.mul_assoc, Int.mul_comm 128 (2 ^ (7 * i)), Int.add_assoc]
        
      rw [e5]
      simp only [List.length_cons, Rs.ok.injEq, true_and]
      omega
theorem v00k {b : List UInt8} {B p : Nat} {n : Int} (ha : At b p (putS n)) (hB : 0 < B) (hB' : B ≤ 64) (hn : -(2 ^ (B - 1) : Nat) ≤ n) (hn' : n < (2 ^ (B - 1) : Nat)) : rdS b B b.length p = .ok n (p + (putS n).length) := by
  have : 2 ^ (B - 1) ≤ 2 ^ 63 := Nat.pow_le_pow_right (by omega) (by omega)
  have h := uro hB' 9 0 0 p n ha (by omega) (by simp) (by simpa using hn) (by simpa using hn') (by omega) (by omega)
  have hw : IntKind.i64.wrap n = n := by rw [wi]; omega
  unfold rdS
  rw [h]
  simp [hw]
end Go.Proofs.YthnmienjiangkaaGreatDoor.Pi.Q
namespace Go.Proofs.YthnmienjiangkaaGreatDoor.Pi.Q
open Go Go.Proofs.YthnmienjiangkaaGreatDoor.Pi
def Back {α : Type} (r : List UInt8 → Nat → Rs α) (w : α → Wr) : Prop := ∀ v u, w v = .ok u → ∀ b p, At b p u → r b p = .ok v (p + u.length)
theorem ue9 : Back rIndex wIndex := by
  intro v u h b p ha
  unfold wIndex at h
  split at h
  · rename_i hv
    cases h
    unfold rIndex
    rw [ug2 ha (by omega)]
    simp only
    rw [if_neg (by omega)]
    simp only [Rs.ok.injEq, and_true]
    omega
  · cases h
theorem uil : ∀ (h : Int), h < 0 → ∀ j, find h absI 0 = some j → j < 12 ∧ hname (105 + j) = h := by
  intro h hn j hj
  by_cases hin : h = -11 ∨ h = -9 ∨ h = -8 ∨ h = -7 ∨ h = -6 ∨ h = -5 ∨ h = -3 ∨ h = -1 ∨ h = -10 ∨ h = -4 ∨ h = -2 ∨ h = -12
  · rcases hin with rfl | rfl | rfl | rfl | rfl | rfl | rfl | rfl | rfl | rfl | rfl | rfl <;> (cases hj; exact ⟨by decide, by decide⟩)
  · have : find h absI 0 = none := by
      unfold absI
      simp only [find]
      rw [if_neg (by omega), if_neg (by omega), if_neg (by omega), if_neg (by omega), if_neg (by omega), if_neg (by omega), if_neg (by omega), if_neg (by omega), if_neg (by omega), if_neg (by omega), if_neg (by omega), if_neg (by omega)]
    rw [this] at hj
    cases hj
theorem uys {v : Int} (h0 : 0 ≤ v) (h1 : v ≤ 2147483647) {b : List UInt8} {p : Nat} (ha : At b p (putS v)) : rS33 b p = .ok v (p + (putS v).length) := by
  unfold rS33
  rw [v00k ha (by decide) (by decide) (by omega) (by simp; omega)]
  simp only
  rw [if_neg (by omega), if_neg (by omega)]
theorem uvt {v : Int} (h0 : 0 ≤ v) : ∃ c r, putS v = c :: r ∧ (c.toNat < 64 ∨ 128 ≤ c.toNat) := by
  rw [putS]
  split
  · refine ⟨_, _, rfl, ?_⟩
    rw [u2v (by omega)]
    omega
  · refine ⟨_, _, rfl, ?_⟩
    rw [u2v (by omega)]
    omega
theorem unt : Back rHeap wHeap := by
  intro v u h b p ha
  unfold wHeap at h
  split at h
  · split at h
    · rename_i h0 h1
      cases h
      obtain ⟨c, r, hc, hcr⟩ := uvt h0
      have hs := uys h0 h1 ha
      rw [hc] at ha
      obtain ⟨a1, a2, a3⟩ := u50 ha
      unfold rHeap
      rw [if_pos a1, a2, if_neg (by rw [ub3 (by omega)]; simp), hs]
    · cases h
  · rename_i h0
    unfold wNamed at h
    cases hf : find v absI 0 with
    | some j =>
      rw [hf] at h
      cases h
      obtain ⟨hj, hn⟩ := uil v (by omega) j hf
      obtain ⟨a1, a2, a3⟩ := u50 ha
      unfold rHeap
      rw [if_pos a1, a2, u2v (by omega), hn, if_pos (by omega)]
      rfl
    | none => rw [hf] at h; cases h
theorem uar {u : List UInt8} {w : Wr} {v : List UInt8} (h : wCat u w = .ok v) : ∃ x, w = .ok x ∧ v = u ++ x := by
  cases w with
  | ok x => cases h; exact ⟨x, rfl, rfl⟩
  | err e => cases h
theorem ufq : Back rVal wVal := by
  intro v u h b p ha
  obtain ⟨num, nul, heap⟩ := v
  unfold wVal at h
  simp only at h
  split at h
  · rename_i h5
    subst h5
    obtain ⟨x, hx, rfl⟩ := uar h
    cases nul with
    | false =>
      rw [if_pos rfl] at ha ⊢
      obtain ⟨a1, a2, a3⟩ := u50 ha
      have := unt _ _ hx _ _ a3
      unfold rVal rRef
      rw [if_pos a1, a2, if_neg (by decide), if_neg (by decide), if_pos a1]
      simp only [a2]
      rw [if_neg (by decide), if_neg (by decide), this]
      simp only [List.length_append, List.length_cons, List.length_nil, Rs.ok.injEq]
      exact ⟨rfl, by omega⟩
    | true =>
      rw [if_neg (by simp)] at ha ⊢
      by_cases h0 : 0 ≤ heap
      · rw [if_pos h0] at ha ⊢
        obtain ⟨a1, a2, a3⟩ := u50 ha
        have := unt _ _ hx _ _ a3
        unfold rVal rRef
        rw [if_pos a1, a2, if_neg (by decide), if_neg (by decide), if_pos a1]
        simp only [a2]
        rw [if_neg (by decide), if_neg (by decide), this]
        simp only [List.length_append, List.length_cons, List.length_nil, Rs.ok.injEq]
        exact ⟨rfl, by omega⟩
      · rw [if_neg h0] at ha ⊢
        unfold wHeap at hx
        rw [if_neg h0] at hx
        unfold wNamed at hx
        cases hf : find heap absI 0 with
        | some j =>
          rw [hf] at hx
          cases hx
          obtain ⟨hj, hn⟩ := uil heap (by omega) j hf
          rw [List.nil_append] at ha ⊢
          obtain ⟨a1, a2, a3⟩ := u50 ha
          unfold rVal rRef
          rw [if_pos a1, a2, u2v (by omega), if_neg (by omega), if_neg (by omega), if_pos a1]
          simp only [a2, u2v (show 105 + j < 256 by omega)]
          rw [hn, if_pos (by omega)]
          rfl
        | none => rw [hf] at hx; cases hx
  · split at h
    · rename_i h5 hc
      obtain ⟨c1, c2, c3, c4⟩ := hc
      cases h
      obtain ⟨a1, a2, a3⟩ := u50 ha
      unfold rVal
      rw [if_pos a1, a2, u2v (by omega), if_neg (by omega), if_pos (by omega)]
      simp only [List.length_cons, List.length_nil, Rs.ok.injEq, VT.mk.injEq, and_true]
      refine ⟨by omega, ?_, ?_⟩
      · exact c3.symm
      · exact c4.symm
    · cases h
theorem u9u {most : Nat} (hm : most < 256) {b : List UInt8} {p v : Nat} (hv : v ≤ most) (ha : At b p [UInt8.ofNat v]) : rSmall b most p = .ok v (p + 1) := by
  obtain ⟨a1, a2, a3⟩ := u50 ha
  unfold rSmall
  rw [if_pos a1, a2, u2v (by omega), if_neg (by omega)]
theorem ujr : Back rField wField := by
  intro v u h b p ha
  obtain ⟨ty, mu⟩ := v
  unfold wField at h
  simp only at h
  have hmu : ∀ q, At b q [if mu then 1 else 0] → rSmall b 1 q = .ok (if mu then 1 else 0) (q + 1) := fun q hq => by
    cases mu
    · exact u9u (v := 0) (by omega) (by omega) hq
    · exact u9u (v := 1) (by omega) (by omega) hq
  unfold rField ukd
  split at h
  · rename_i h6
    cases h
    subst h6
    obtain ⟨a1, a2, a3⟩ := u50 ha
    rw [if_pos a1, a2, if_pos (by decide)]
    simp only [hmu _ a3, rsMut]
    cases mu <;> rfl
  · split at h
    · rename_i h6 h7
      cases h
      subst h7
      obtain ⟨a1, a2, a3⟩ := u50 ha
      rw [if_pos a1, a2, if_neg (by decide), if_pos (by decide)]
      simp only [hmu _ a3, rsMut]
      cases mu <;> rfl
    · cases hw : wVal ty with
      | ok x =>
        rw [hw] at h
        cases h
        obtain ⟨a1, a2⟩ := u5x ha
        have hv := ufq _ _ hw _ _ a1
        have hp : p < b.length := by
          unfold rVal at hv
          split at hv
          · assumption
          · cases hv
        have hb : ¬ (b.getD p 0).toNat = 120 ∧ ¬ (b.getD p 0).toNat = 119 := by
          constructor
          · intro hb
            unfold rVal rRef at hv
            rw [if_pos hp, hb] at hv
            simp [hp] at hv
            simp [hname] at hv
          · intro hb
            unfold rVal rRef at hv
            rw [if_pos hp, hb] at hv
            simp [hp] at hv
            simp [hname] at hv
        rw [if_pos hp, if_neg hb.1, if_neg hb.2, hv]
        simp only [hmu _ a2, rsMut, List.length_append, List.length_cons, List.length_nil]
        cases mu <;> (simp; omega)
      | err e => rw [hw] at h; cases h
theorem uze {b : List UInt8} {most p v q : Nat} (h : rSmall b most p = .ok v q) : v ≤ most ∧ q = p + 1 := by
  unfold rSmall at h
  split at h
  · split at h
    · cases h
    · simp only [Rs.ok.injEq] at h
      omega
  · cases h
theorem uk2 {a b : Wr} {u : List UInt8} (h : wThen a b = .ok u) : ∃ x y, a = .ok x ∧ b = .ok y ∧ u = x ++ y := by
  cases a with
  | ok x =>
    obtain ⟨y, h1, h2⟩ := uar h
    exact ⟨x, y, rfl, h1, h2⟩
  | err e => cases h
theorem uqj {α : Type} {r : List UInt8 → Nat → Rs α} {w : α → Wr} (hb : Back r w) {b : List UInt8} : ∀ (l : List α) (u : List UInt8) (p : Nat), wAll w l = .ok u → At b p u → rRep (r b) l.length p = .ok l (p + u.length)
  | [], u, p, h, ha => by cases h; rfl
  | v :: l, u, p, h, ha => by
    obtain ⟨x, y, h1, h2, rfl⟩ := uk2 h
    obtain ⟨a1, a2⟩ := u5x ha
    have e1 := hb _ _ h1 _ _ a1
    have e2 := uqj hb l y _ h2 a2
    rw [List.length_cons, rRep, e1]
    simp only [e2, rsCons, List.length_append, Nat.add_assoc]
theorem udn {α : Type} {r : List UInt8 → Nat → Rs α} {w : α → Wr} {most : Nat} (hm : most < 2 ^ 32) (hb : Back r w) : Back (fun b p => rList b most (r b) p) (wEach most w) := by
  intro l u h b p ha
  unfold wEach at h
  split at h
  · cases h
  · obtain ⟨x, h1, rfl⟩ := uar h
    obtain ⟨a1, a2⟩ := u5x ha
    show rList b most (r b) p = _
    unfold rList
    rw [ug2 a1 (by omega)]
    simp only
    rw [if_neg (by omega), uqj hb l x _ h1 a2, List.length_append, Nat.add_assoc]
def wComp (v : CT) : Wr :=
  if v.kind = 1 then if v.fs.length = 0 then wCat [96] (wThen (wEach 1000 wVal v.ps) (wEach 1000 wVal v.rs)) else .err 4
  else if v.ps.length + v.rs.length = 0 then
    if v.kind = 2 then wCat [95] (wEach 10000 wField v.fs)
    else if v.kind = 3 then match v.fs with
      | [f] => wCat [94] (wField f)
      | _ => .err 4
    else .err 4
  else .err 4
def wSub (v : ST) : Wr :=
  if v.fin = true ∧ v.sup.length = 0 then wComp v.comp
  else wCat [if v.fin then 79 else 80] (wThen (wEach 1000 wIndex v.sup) (wComp v.comp))
def wRec (v : RT) : Wr :=
  match v.types with
  | [t] => wSub t
  | l => wCat [78] (wEach 10000 wSub l)
theorem ume : Back rVals (wEach 1000 wVal) := udn (by decide) ufq
theorem upb : Back uee (wEach 10000 wField) := udn (by decide) ujr
theorem up8 : Back ucw (wEach 1000 wIndex) := udn (by decide) ue9
theorem um5 : Back rComp wComp := by
  intro v u h b p ha
  obtain ⟨kind, ps, rs, fs⟩ := v
  unfold wComp at h
  simp only at h
  split at h
  · rename_i hk
    subst hk
    split at h
    · rename_i hf
      have hf : fs = [] := by cases fs with | nil => rfl | cons a r => simp at hf
      subst hf
      obtain ⟨x, hx, rfl⟩ := uar h
      obtain ⟨y, z, hy, hz, rfl⟩ := uk2 hx
      obtain ⟨a1, a2, a3⟩ := u50 ha
      have a3 : At b (p + 1) (y ++ z) := a3
      obtain ⟨a4, a5⟩ := u5x a3
      unfold rComp
      rw [if_pos a1, a2, if_pos (by decide)]
      unfold rFunc
      rw [ume _ _ hy _ _ a4]
      simp only [ume _ _ hz _ _ a5, rsFunc, List.length_append, List.length_cons, List.length_nil, Rs.ok.injEq, true_and]
      omega
    · cases h
  · split at h
    · rename_i hl
      have hps : ps = [] := by cases ps with | nil => rfl | cons a r => simp at hl
      have hrs : rs = [] := by cases rs with | nil => rfl | cons a r => simp at hl
      subst hps hrs
      split at h
      · rename_i hk
        subst hk
        obtain ⟨x, hx, rfl⟩ := uar h
        obtain ⟨a1, a2, a3⟩ := u50 ha
        unfold rComp
        rw [if_pos a1, a2, if_neg (by decide), if_pos (by decide), upb _ _ hx _ _ a3]
        simp only [ufm, List.length_append, List.length_cons, List.length_nil, Rs.ok.injEq, true_and]
        omega
      · split at h
        · rename_i hk
          subst hk
          split at h
          · obtain ⟨x, hx, rfl⟩ := uar h
            obtain ⟨a1, a2, a3⟩ := u50 ha
            unfold rComp
            rw [if_pos a1, a2, if_neg (by decide), if_neg (by decide), if_pos (by decide), ujr _ _ hx _ _ a3]
            simp only [ukk, List.length_append, List.length_cons, List.length_nil, Rs.ok.injEq, true_and]
            omega
          · cases h
        · cases h
    · cases h
theorem uqa : Back rSub wSub := by
  intro v u h b p ha
  obtain ⟨fin, sup, comp⟩ := v
  unfold wSub at h
  simp only at h
  split at h
  · rename_i hf
    obtain ⟨rfl, hs⟩ := hf
    have hs : sup = [] := by cases sup with | nil => rfl | cons a r => simp at hs
    subst hs
    have hc := um5 _ _ h _ _ ha
    have hp : p < b.length ∧ (b.getD p 0).toNat ≠ 80 ∧ (b.getD p 0).toNat ≠ 79 := by
      unfold rComp at hc
      split at hc
      · rename_i hp
        refine ⟨hp, ?_, ?_⟩
        · intro hx
          rw [hx] at hc
          simp at hc
        · intro hx
          rw [hx] at hc
          simp at hc
      · cases hc
    unfold rSub
    rw [if_pos hp.1, if_neg hp.2.1, if_neg hp.2.2, hc]
    rfl
  · obtain ⟨x, hx, rfl⟩ := uar h
    obtain ⟨y, z, hy, hz, rfl⟩ := uk2 hx
    obtain ⟨a1, a2, a3⟩ := u50 ha
    have a3 : At b (p + 1) (y ++ z) := a3
    obtain ⟨a4, a5⟩ := u5x a3
    have hsub : ∀ f, rSubs b f (p + 1) = .ok ⟨f, sup, comp⟩ (p + ([if fin then 79 else 80] ++ (y ++ z) : List UInt8).length) := fun f => by
      unfold rSubs
      rw [up8 _ _ hy _ _ a4]
      simp only [um5 _ _ hz _ _ a5, rsSub, List.length_append, List.length_cons, List.length_nil, Rs.ok.injEq, true_and]
      omega
    unfold rSub
    rw [if_pos a1, a2]
    cases fin with
    | true =>
      have e1 : ¬ ((if true = true then 79 else 80 : UInt8).toNat = 80) := by simp
      have e2 : ((if true = true then 79 else 80 : UInt8).toNat = 79) := by simp
      rw [if_neg e1, if_pos e2]; exact hsub true
    | false =>
      have e1 : ((if false = true then 79 else 80 : UInt8).toNat = 80) := by simp
      rw [if_pos e1]; exact hsub false
theorem usm : Back rTypes (wEach 10000 wSub) := udn (by decide) uqa
def RT.plain (v : RT) : RT := ⟨v.types, decide (v.types.length ≠ 1)⟩
theorem uzf {v : RT} {u : List UInt8} (h : wRec v = .ok u) {b : List UInt8} {p : Nat} (ha : At b p u) : rRec b p = .ok v.plain (p + u.length) := by
  obtain ⟨types, exp⟩ := v
  have many : ∀ l, wCat [78] (wEach 10000 wSub l) = .ok u → rRec b p = .ok ⟨l, true⟩ (p + u.length) := fun l h => by
    obtain ⟨x, hx, rfl⟩ := uar h
    obtain ⟨a1, a2, a3⟩ := u50 ha
    unfold rRec
    rw [if_pos a1, a2, if_pos (by decide), usm _ _ hx _ _ a3]
    simp only [rsExp, List.length_append, List.length_cons, List.length_nil, Rs.ok.injEq, true_and]
    omega
  unfold RT.plain
  match types, h with
  | [], h => exact many _ h
  | t :: s :: r, h =>
    have := many _ h
    simpa using this
  | [t], h =>
    have h : wSub t = .ok u := h
    have hs := uqa _ _ h _ _ ha
    have hp : p < b.length ∧ (b.getD p 0).toNat ≠ 78 := by
      unfold rSub at hs
      split at hs
      · rename_i hp
        refine ⟨hp, ?_⟩
        intro hx
        rw [hx] at hs
        simp at hs
        unfold rComp at hs
        rw [if_pos hp, hx] at hs
        simp [rsSub] at hs
      · cases hs
    unfold rRec
    rw [if_pos hp.1, if_neg hp.2, hs]
    rfl
end Go.Proofs.YthnmienjiangkaaGreatDoor.Pi.Q
namespace Go.Proofs.YthnmienjiangkaaGreatDoor.Pi.Q
open Go Go.Proofs.YthnmienjiangkaaGreatDoor.Pi
attribute [local congr] ite_congr
def Errs {α : Type} (r : Nat → Rs α) : Prop := ∀ p a w, r p = .err a w → w ≠ 0
theorem CT.gl_plain {v : CT} : v.gl.plain = v := rfl
theorem ST.gl_plain {v : ST} : v.gl.plain = v := rfl
theorem RT.gl_plain {v : RT} : v.gl.plain = v := by
  unfold RT.gl RG.plain
  simp only [List.map_map]
  have : (SG.plain ∘ ST.gl) = id := rfl
  rw [this, List.map_id]
theorem v00r {v : ST} : encSG v.gl = encS v := by
  unfold encSG encS csS ST.gl CT.gl
  simp only [ul4]
theorem uzt {v : RT} : encRG v.gl = encR v := by
  unfold encRG encR RT.gl
  simp only [ul4, List.map_map]
  have : (encSG ∘ ST.gl) = encS := funext fun v => v00r
  rw [this]
end Go.Proofs.YthnmienjiangkaaGreatDoor.Pi.Q
namespace Go.Proofs.YthnmienjiangkaaGreatDoor.Pi.Q
open Go Go.Proofs.YthnmienjiangkaaGreatDoor.Pi
def Sim (n : Nat) (k : List UInt8 → KR) (g : WS → GR) : Prop :=
  (∀ acc, acc.length + n ≤ 140737488355328 →
    (∃ a, a.length ≤ acc.length + n ∧ k acc = .ok () a ∧ g ⟨acc, 0⟩ = .ok () ⟨a, 0⟩) ∨ (∃ e b, e ≠ 0 ∧ b.length ≤ acc.length + n ∧ k acc = .err u02 [0, e] ∧ g ⟨acc, 0⟩ = .ok () ⟨b, e⟩)) ∧
  ∀ acc e, e ≠ 0 → acc.length + n ≤ 140737488355328 → ∃ b, b.length ≤ acc.length + n ∧ g ⟨acc, e⟩ = .ok () ⟨b, e⟩
theorem Sim.mono {n m : Nat} {k : List UInt8 → KR} {g : WS → GR} (h : Sim n k g) (hnm : n ≤ m) : Sim m k g := by
  refine ⟨fun acc ha => ?_, fun acc e he ha => ?_⟩
  · rcases h.1 acc (by omega) with ⟨a, h1, h2⟩ | ⟨e, b, h1, h2, h3⟩
    · exact .inl ⟨a, by omega, h2⟩
    · exact .inr ⟨e, b, h1, by omega, h3⟩
  · obtain ⟨b, h1, h2⟩ := h.2 acc e he (by omega)
    exact ⟨b, by omega, h2⟩
theorem Sim.bind {n m : Nat} {k k' : List UInt8 → KR} {g g' : WS → GR} (h : Sim n k g) (h' : Sim m k' g') : Sim (n + m) (fun acc => (k acc).bind fun _ acc => k' acc) (fun s => (g s).bind fun _ s => g' s) := by
  refine ⟨fun acc ha => ?_, fun acc e he ha => ?_⟩
  · rcases h.1 acc (by omega) with ⟨a, h1, h2, h3⟩ | ⟨e, b, h1, h2, h3, h4⟩
    · simp only [h2, h3, Res.bind]
      rcases h'.1 a (by omega) with ⟨a', q1, q2⟩ | ⟨e, b, q1, q2, q3⟩
      · exact .inl ⟨a', by omega, q2⟩
      · exact .inr ⟨e, b, q1, by omega, q3⟩
    · simp only [h3, h4, Res.bind]
      obtain ⟨b', q1, q2⟩ := h'.2 b e h1 (by omega)
      exact .inr ⟨e, b', h1, by omega, rfl, q2⟩
  · obtain ⟨b, h1, h2⟩ := h.2 acc e he (by omega)
    simp only [h2, Res.bind]
    obtain ⟨b', q1, q2⟩ := h'.2 b e he (by omega)
    exact ⟨b', by omega, q2⟩
theorem u2u {u : List UInt8} {n : Nat} (h : u.length ≤ n) : Sim n (kPut u) (gPut u) := by
  refine ⟨fun acc ha => .inl ⟨acc ++ u, by simp; omega, ?_, ?_⟩, fun acc e he ha => ⟨acc ++ u, by simp; omega, ?_⟩⟩
  · exact if_pos (by omega)
  · exact if_pos (show acc.length + u.length ≤ _ by omega)
  · exact if_pos (show acc.length + u.length ≤ _ by omega)
theorem ufw {b c : Bool} {e : Int} (he : e ≠ 0) (hbc : b = c) : Sim 0 (fun acc => if b = true then .ok () acc else .err u02 [0, e]) (fun s => .ok () (gMust c e s)) := by
  subst hbc
  refine ⟨fun acc ha => ?_, fun acc f hf ha => ⟨acc, by omega, ?_⟩⟩
  · cases b
    · exact .inr ⟨e, acc, he, by omega, rfl, by simp [gMust]⟩
    · exact .inl ⟨acc, by omega, rfl, by simp [gMust]⟩
  · simp [gMust, hf]
theorem v00l {n : Nat} {e : Int} {g : WS → GR} (he : e ≠ 0) (h : ∀ acc, acc.length + n ≤ 140737488355328 → ∃ b, b.length ≤ acc.length + n ∧ g ⟨acc, 0⟩ = .ok () ⟨b, e⟩) (h2 : ∀ acc f, f ≠ 0 → acc.length + n ≤ 140737488355328 → ∃ b, b.length ≤ acc.length + n ∧ g ⟨acc, f⟩ = .ok () ⟨b, f⟩) : Sim n (fun _ => .err u02 [0, e]) g :=
  ⟨fun acc ha => by obtain ⟨b, h3, h4⟩ := h acc ha; exact .inr ⟨e, b, he, h3, rfl, h4⟩, h2⟩
def Runs (n : Nat) (g : WS → GR) : Prop := ∀ acc e, acc.length + n ≤ 140737488355328 → e ≠ 0 → ∃ b, b.length ≤ acc.length + n ∧ g ⟨acc, e⟩ = .ok () ⟨b, e⟩
theorem Sim.runs {n : Nat} {k : List UInt8 → KR} {g : WS → GR} (h : Sim n k g) : Runs n g := fun acc e ha he => h.2 acc e he ha
theorem Runs.mono {n m : Nat} {g : WS → GR} (h : Runs n g) (hnm : n ≤ m) : Runs m g := fun acc e ha he => by
  obtain ⟨b, h1, h2⟩ := h acc e (by omega) he
  exact ⟨b, by omega, h2⟩
theorem u43 {n : Nat} {e : Int} {g : WS → GR} (he : e ≠ 0) (hg : Runs n g) : Sim n (fun _ => .err u02 [0, e]) (fun s => g (gMust false e s)) := by
  refine v00l he (fun acc ha => ?_) (fun acc f hf ha => ?_)
  · have : gMust false e ⟨acc, 0⟩ = ⟨acc, e⟩ := by simp [gMust]
    rw [this]
    exact hg acc e ha he
  · have : gMust false e ⟨acc, f⟩ = ⟨acc, f⟩ := by simp [gMust, hf]
    rw [this]
    exact hg acc f ha hf
theorem u6j {u : List UInt8} {n : Nat} (h : u.length ≤ n) : Runs n (gPut u) := (u2u h).runs
theorem u0e {n : Nat} {k k' : List UInt8 → KR} {g g' : WS → GR} (h : Sim n k g) (hk : ∀ acc, k' acc = k acc) (hg : ∀ s, g' s = g s) : Sim n k' g' := by
  have e1 : k' = k := funext hk
  have e2 : g' = g := funext hg
  rw [e1, e2]
  exact h
theorem uhs {n : Int} (hn : n ≤ 9223372036854775807) : Sim 10 (kIndex n) (gIndex n) := by
  by_cases h0 : 0 ≤ n
  · have hten : (putU n.toNat).length ≤ 10 := ua2 (by omega)
    by_cases h1 : n ≤ 2147483647
    · refine u0e (u2u (u := putU n.toNat) hten) (fun acc => ?_) (fun s => ?_)
      · unfold kIndex; rw [if_pos ⟨h0, h1⟩]
      · unfold gIndex
        rw [if_pos h0, decide_eq_true (show n < 2147483648 by omega)]
        have : gMust true 4 s = s := by simp [gMust]
        rw [this]
    · refine u0e (u43 (e := 4) (by decide) (u6j (u := putU n.toNat) hten)) (fun acc => ?_) (fun s => ?_)
      · unfold kIndex; rw [if_neg (fun h => h1 h.2)]
      · unfold gIndex
        rw [if_pos h0, decide_eq_false (show ¬ n < 2147483648 by omega)]
  · refine u0e (u43 (n := 10) (e := 4) (g := fun s => .ok () s) (by decide) (fun acc e ha he => ⟨acc, by omega, rfl⟩)) (fun acc => ?_) (fun s => ?_)
    · unfold kIndex; rw [if_neg (fun h => h0 h.1)]
    · unfold gIndex; rw [if_neg h0]
theorem ujl {h : Int} : ∀ (l : List Int) (i j : Nat), find h l i = some j → h ∈ l
  | [], i, j, e => by cases e
  | a :: r, i, j, e => by
    unfold find at e
    split at e
    · rename_i ha; rw [ha]; simp
    · exact List.mem_cons_of_mem _ (ujl r (i + 1) j e)
theorem uwv {h : Int} (hh : h < 0) (h2 : -12 ≤ h) : ∃ j, find h absI 0 = some j ∧ j < 12 := by
  have : h = -11 ∨ h = -9 ∨ h = -8 ∨ h = -7 ∨ h = -6 ∨ h = -5 ∨ h = -3 ∨ h = -1 ∨ h = -10 ∨ h = -4 ∨ h = -2 ∨ h = -12 := by omega
  rcases this with rfl | rfl | rfl | rfl | rfl | rfl | rfl | rfl | rfl | rfl | rfl | rfl <;> exact ⟨_, rfl, by decide⟩
theorem uyo {h : Int} (h1 : -9223372036854775808 ≤ h) (h2 : h ≤ 9223372036854775807) : Sim 10 (kHeap h) (gHeap h) := by
  by_cases h0 : h < 0
  · by_cases h3 : -12 ≤ h
    · obtain ⟨j, hj, hj12⟩ := uwv h0 h3
      refine u0e (u2u (u := [UInt8.ofNat (105 + j)]) (n := 10) (by simp)) (fun acc => ?_) (fun s => ?_)
      · unfold kHeap; rw [if_neg (by omega), hj]; rfl
      · unfold gHeap
        rw [if_pos h0, decide_eq_true h3]
        have : gMust true 4 s = s := by simp [gMust]
        rw [this]
        unfold codeN
        rw [hj]
    · refine u0e (u43 (e := 4) (by decide) (u6j (u := [UInt8.ofNat (codeN h)]) (n := 10) (by simp))) (fun acc => ?_) (fun s => ?_)
      · unfold kHeap
        rw [if_neg (by omega)]
        have : find h absI 0 = none := by
          cases hf : find h absI 0 with
          | none => rfl
          | some j =>
            have := ujl _ _ _ hf
            simp [absI] at this
            omega
        rw [this]
        rfl
      · unfold gHeap
        rw [if_pos h0, decide_eq_false h3]
  · have hten : (putS h).length ≤ 10 := ur7 9 h (by omega) (by omega)
    by_cases h3 : h ≤ 2147483647
    · refine u0e (u2u (u := putS h) hten) (fun acc => ?_) (fun s => ?_)
      · unfold kHeap; rw [if_pos (by omega), if_pos h3]
      · unfold gHeap
        rw [if_neg h0, decide_eq_true (show h < 2147483648 by omega)]
        have : gMust true 4 s = s := by simp [gMust]
        rw [this]
    · refine u0e (u43 (e := 4) (by decide) (u6j (u := putS h) hten)) (fun acc => ?_) (fun s => ?_)
      · unfold kHeap; rw [if_pos (by omega), if_neg h3]
      · unfold gHeap
        rw [if_neg h0, decide_eq_false (show ¬ h < 2147483648 by omega)]
def I64 (n : Int) : Prop := -9223372036854775808 ≤ n ∧ n ≤ 9223372036854775807
theorem u7j {e : Int} {s : WS} : gMust true e s = s := by simp [gMust]
theorem uhi {v : VT} (h1 : I64 v.heap) : Sim 11 (kVal v) (gVal false v) := by
  have hh := uyo h1.1 h1.2
  by_cases h5 : v.num = 5
  · cases hn : v.nul with
    | true =>
      by_cases h0 : v.heap < 0
      · refine u0e (hh.mono (by omega)) (fun acc => ?_) (fun s => ?_)
        · unfold kVal; rw [if_pos h5, if_neg (by simp [hn]), if_neg (by omega)]; rfl
        · unfold gVal; rw [if_pos h5, if_pos hn, if_pos h0]
      · refine u0e (Sim.bind (u2u (u := [99]) (n := 1) (by simp)) hh) (fun acc => ?_) (fun s => ?_)
        · unfold kVal; rw [if_pos h5, if_neg (by simp [hn]), if_pos (by omega)]
        · unfold gVal; rw [if_pos h5, if_pos hn, if_neg h0]
    | false =>
      refine u0e (Sim.bind (u2u (u := [100]) (n := 1) (by simp)) hh) (fun acc => ?_) (fun s => ?_)
      · unfold kVal; rw [if_pos h5, if_pos hn]
      · unfold gVal; rw [if_pos h5, if_neg (by simp [hn])]
  · by_cases hc : 1 ≤ v.num ∧ v.num ≤ 4 ∧ v.nul = false ∧ v.heap = 0
    · obtain ⟨c1, c2, c3, c4⟩ := hc
      refine u0e (u2u (u := [UInt8.ofNat (128 - v.num).toNat]) (n := 11) (by simp)) (fun acc => ?_) (fun s => ?_)
      · unfold kVal; rw [if_neg h5, if_pos ⟨c1, c2, c3, c4⟩]
      · unfold gVal
        have e1 : gValOk false v = true := by unfold gValOk; exact decide_eq_true ⟨.inl ⟨c1, c2⟩, c3, c4⟩
        have e2 : gByte v.num = UInt8.ofNat (128 - v.num).toNat := by
          unfold gByte
          rw [if_neg (by omega), if_neg (by omega), w_i64 (by omega), w_u8 (by omega)]
        rw [if_neg h5, e1, u7j, e2]
    · refine u0e (u43 (e := 4) (by decide) (u6j (u := [gByte v.num]) (n := 11) (by simp))) (fun acc => ?_) (fun s => ?_)
      · unfold kVal; rw [if_neg h5, if_neg hc]
      · unfold gVal
        have e1 : gValOk false v = false := by
          unfold gValOk
          refine decide_eq_false (fun h => hc ?_)
          obtain ⟨h | h, h3, h4⟩ := h
          · exact ⟨h.1, h.2, h3, h4⟩
          · cases h.1
        rw [if_neg h5, e1]
theorem urq {t : Bool} : Sim 1 (kPut [if t then 1 else 0]) (gFlag t) := u2u (by simp)
theorem VT.eq_of {v : VT} {n : Int} (h1 : v.num = n) (h2 : v.nul = false) (h3 : v.heap = 0) : v = ⟨n, false, 0⟩ := by
  cases v
  simp_all
theorem ugt {v : FT} (h1 : I64 v.ty.heap) : Sim 12 (kField v) (gField v) := by
  have key : ∀ {k g}, Sim 11 k g → (∀ acc, kField v acc = ((k acc).bind fun _ acc => kPut [if v.mu then 1 else 0] acc)) → (∀ s, gVal true v.ty s = g s) → Sim 12 (kField v) (gField v) := fun h hk hg =>
    u0e (Sim.bind h (urq (t := v.mu))) hk (fun s => by unfold gField; rw [hg])
  have put1 : ∀ n x, v.ty = ⟨n, false, 0⟩ → (n = 6 ∧ x = 120) ∨ (n = 7 ∧ x = 119) → ∀ s, gVal true v.ty s = gPut [x] s := fun n x he hx s => by
    unfold gVal
    rw [he]
    have e1 : gValOk true ⟨n, false, 0⟩ = true := by
      unfold gValOk
      refine decide_eq_true ⟨.inr ⟨rfl, ?_⟩, rfl, rfl⟩
      rcases hx with h | h
      · exact .inl h.1
      · exact .inr h.1
    simp only
    rw [if_neg (by omega), e1, u7j]
    rcases hx with ⟨rfl, rfl⟩ | ⟨rfl, rfl⟩ <;> rfl
  by_cases h6 : v.ty = ⟨6, false, 0⟩
  · exact key (u2u (u := [120]) (n := 11) (by simp)) (fun acc => by unfold kField; rw [if_pos h6]) (put1 6 120 h6 (.inl ⟨rfl, rfl⟩))
  · by_cases h7 : v.ty = ⟨7, false, 0⟩
    · exact key (u2u (u := [119]) (n := 11) (by simp)) (fun acc => by unfold kField; rw [if_neg h6, if_pos h7]) (put1 7 119 h7 (.inr ⟨rfl, rfl⟩))
    · refine key (k := kVal v.ty) (g := gVal true v.ty) ?_ (fun acc => by unfold kField; rw [if_neg h6, if_neg h7]) (fun s => rfl)
      refine u0e (uhi h1) (fun acc => rfl) (fun s => ?_)
      unfold gVal
      by_cases h5 : v.ty.num = 5
      · rw [if_pos h5, if_pos h5]
      · rw [if_neg h5, if_neg h5]
        have e1 : gValOk true v.ty = gValOk false v.ty := by
          unfold gValOk
          rw [decide_eq_decide]
          constructor
          · rintro ⟨h | ⟨_, h | h⟩, h3, h4⟩
            · exact ⟨.inl h, h3, h4⟩
            · exact absurd (VT.eq_of h h3 h4) h6
            · exact absurd (VT.eq_of h h3 h4) h7
          · rintro ⟨h | h, h3, h4⟩
            · exact ⟨.inl h, h3, h4⟩
            · cases h.1
        rw [e1]
theorem uow {α : Type} {n : Nat} {k : α → List UInt8 → KR} {g : α → WS → GR} : ∀ (l : List α), (∀ v ∈ l, Sim n (k v) (g v)) → Sim (n * l.length) (kAll k l) (gAll g l)
  | [], h => ⟨fun acc ha => .inl ⟨acc, by simp, rfl, rfl⟩, fun acc e he ha => ⟨acc, by simp, rfl⟩⟩
  | v :: l, h => by
    have := Sim.bind (h v (by simp)) (uow l (fun u hu => h u (by simp [hu])))
    refine (u0e this (fun acc => rfl) (fun s => rfl)).mono ?_
    rw [List.length_cons, Nat.mul_add, Nat.mul_one]
    omega
theorem ufs {α : Type} {n most : Nat} {k : α → List UInt8 → KR} {g : α → WS → GR} {l : List α} (hl : l.length < 2 ^ 62) (h : ∀ v ∈ l, Sim n (k v) (g v)) : Sim (10 + n * l.length) (kEach most k l) (fun s => (gMany l.length most s).bind fun _ s => gAll g l s) := by
  have hten : (putU l.length).length ≤ 10 := ua2 (by omega)
  have ha := uow l h
  by_cases hm : most < l.length
  · refine u0e (u43 (e := 2) (g := fun s => (gPut (putU l.length) s).bind fun _ s => gAll g l s) (by decide) (Sim.bind (u2u hten) ha).runs) (fun acc => ?_) (fun s => ?_)
    · unfold kEach; rw [if_pos hm]
    · unfold gMany
      rw [decide_eq_false (by omega), Int.toNat_natCast]
  · refine u0e (Sim.bind (u2u hten) ha) (fun acc => ?_) (fun s => ?_)
    · unfold kEach; rw [if_neg hm]
    · unfold gMany
      rw [decide_eq_true (by omega), u7j, Int.toNat_natCast]
theorem uvn {α : Type} {n : Nat} {k : α → List UInt8 → KR} {g : α → WS → GR} {l : List α} (h : ∀ v ∈ l, Sim n (k v) (g v)) : Runs (n * l.length) (gAll g l) := (uow l h).runs
def CT.w (v : CT) : Prop := (∀ a ∈ v.ps, I64 a.heap) ∧ (∀ a ∈ v.rs, I64 a.heap) ∧ ∀ a ∈ v.fs, I64 a.ty.heap
def nComp (v : CT) : Nat := 40 + 11 * v.ps.length + 11 * v.rs.length + 12 * v.fs.length
theorem Runs.bind {n m : Nat} {g g' : WS → GR} (h : Runs n g) (h' : Runs m g') : Runs (n + m) (fun s => (g s).bind fun _ s => g' s) := fun acc e ha he => by
  obtain ⟨b, h1, h2⟩ := h acc e (by omega) he
  simp only [h2, Res.bind]
  obtain ⟨b', q1, q2⟩ := h' b e (by omega) he
  exact ⟨b', by omega, q2⟩
theorem uyd {v : CT} (hf : v.fit) (hw : v.w) : Sim (nComp v) (kComp v) (gComp v) := by
  obtain ⟨kind, ps, rs, fs⟩ := v
  obtain ⟨f1, f2, f3⟩ := hf
  obtain ⟨w1, w2, w3⟩ := hw
  simp only at f1 f2 f3 w1 w2 w3
  have hps : Sim (10 + 11 * ps.length) (kVals ps) (gVals ps) := ufs f1 (fun v hv => uhi (w1 v hv))
  have hrs : Sim (10 + 11 * rs.length) (kVals rs) (gVals rs) := ufs f2 (fun v hv => uhi (w2 v hv))
  have hfs : Sim (10 + 12 * fs.length) (kEach 10000 kField fs) (fun s => (gMany fs.length 10000 s).bind fun _ s => gAll gField fs s) := ufs f3 (fun v hv => ugt (w3 v hv))
  have rfs : Runs (12 * fs.length) (gAll gField fs) := uvn (k := kField) (fun v hv => ugt (w3 v hv))
  unfold nComp
  simp only
  by_cases h1 : kind = 1
  · subst h1
    by_cases h0 : (fs.length : Int) = 0
    · refine (u0e (Sim.bind (u2u (u := [96]) (n := 1) (by simp)) (Sim.bind hps hrs)) (fun acc => ?_) (fun s => ?_)).mono (by omega)
      · have e0 : ((fs.length : Int) == 0) = true := by simpa using h0
        unfold kComp
        simp only [e0]
        rfl
      · have e0 : ((fs.length : Int) == 0) = true := by simpa using h0
        unfold gComp
        simp only [e0, u7j, if_true]
    · refine (u0e (u43 (e := 4) (by decide) (Runs.bind (u6j (u := [96]) (n := 1) (by simp)) (Runs.bind hps.runs hrs.runs))) (fun acc => ?_) (fun s => ?_)).mono (show 1 + (10 + 11 * ps.length + (10 + 11 * rs.length)) ≤ _ by omega)
      · have e0 : ((fs.length : Int) == 0) = false := by simpa using h0
        unfold kComp
        simp only [e0]
        rfl
      · have e0 : ((fs.length : Int) == 0) = false := by simpa using h0
        unfold gComp
        simp only [e0, if_true]
  · have ek : (kind == 1) = false := beq_false_of_ne h1
    by_cases h0 : (ps.length : Int) + rs.length = 0
    · have eb : ((ps.length : Int) + rs.length == 0) = true := by simpa using h0
      have e1 : ((ps.length : Int) == 0) = true := beq_iff_eq.mpr (by omega)
      have e2 : ((rs.length : Int) == 0) = true := beq_iff_eq.mpr (by omega)
      have km : ∀ acc, kMust (kind == 1 || ((ps.length : Int) + rs.length == 0)) acc = .ok () acc := fun acc => by rw [eb, Bool.or_true]; rfl
      by_cases h2 : kind = 2
      · refine (u0e (Sim.bind (u2u (u := [95]) (n := 1) (by simp)) hfs) (fun acc => ?_) (fun s => ?_)).mono (by omega)
        · unfold kComp
          simp only [km, Res.bind]
          rw [if_neg h1, if_pos h2]
        · unfold gComp
          simp only [e1, e2, Bool.and_self, u7j]
          rw [if_neg h1, if_pos h2]
      · by_cases h3 : kind = 3
        · match fs, f3, w3, hfs, rfs with
          | [], f3, w3, hfs, rfs =>
            refine (u0e (u43 (e := 4) (n := 1) (by decide) (Runs.bind (u6j (u := [94]) (n := 1) (by simp)) (rfs.mono (Nat.le_refl _)))) (fun acc => ?_) (fun s => ?_)).mono (by simp; omega)
            · unfold kComp
              simp only [km, Res.bind]
              rw [if_neg h1, if_neg h2, if_pos h3]
            · unfold gComp
              simp only [e1, e2, Bool.and_self]
              rw [if_neg h1, if_neg h2, if_pos h3]
              rfl
          | [x], f3, w3, hfs, rfs =>
            have hx := ugt (w3 x (by simp))
            refine (u0e (Sim.bind (u2u (u := [94]) (n := 1) (by simp)) hx) (fun acc => ?_) (fun s => ?_)).mono (by simp; omega)
            · unfold kComp
              simp only [km, Res.bind]
              rw [if_neg h1, if_neg h2, if_pos h3]
            · unfold gComp
              have e3 : ((([x] : List FT).length : Int) == 1) = true := rfl
              simp only [e1, e2, e3, Bool.and_self, u7j]
              rw [if_neg h1, if_neg h2, if_pos h3]
              cases gPut [94] s with
              | ok u s1 =>
                simp only [Res.bind, gAll]
                cases gField x s1 <;> rfl
              | err t l => rfl
              | no => rfl
          | x :: y :: r, f3, w3, hfs, rfs =>
            refine (u0e (u43 (e := 4) (by decide) (Runs.bind (u6j (u := [94]) (n := 1) (by simp)) rfs)) (fun acc => ?_) (fun s => ?_)).mono (by simp; omega)
            · unfold kComp
              simp only [km, Res.bind]
              rw [if_neg h1, if_neg h2, if_pos h3]
            · unfold gComp
              have e3 : (((x :: y :: r).length : Int) == 1) = false := by simp; omega
              simp only [e1, e2, e3, Bool.and_false]
              rw [if_neg h1, if_neg h2, if_pos h3]
        · refine (u0e (u43 (e := 4) (by decide) rfs) (fun acc => ?_) (fun s => ?_)).mono (by omega)
          · unfold kComp
            simp only [km, Res.bind]
            rw [if_neg h1, if_neg h2, if_neg h3]
          · unfold gComp
            simp only
            rw [if_neg h1, if_neg h2, if_neg h3]
    · have eb : ((ps.length : Int) + rs.length == 0) = false := by simpa using h0
      have km : ∀ acc, kComp ⟨kind, ps, rs, fs⟩ acc = .err u02 [0, 4] := fun acc => by
        unfold kComp
        simp only [ek, eb]
        rfl
      have eand : (((ps.length : Int) == 0) && ((rs.length : Int) == 0)) = false := by
        rw [Bool.eq_false_iff]
        intro h
        simp only [Bool.and_eq_true, beq_iff_eq] at h
        omega
      by_cases h2 : kind = 2
      · refine (u0e (u43 (e := 4) (by decide) (Runs.bind (u6j (u := [95]) (n := 1) (by simp)) hfs.runs)) km (fun s => ?_)).mono (by omega)
        unfold gComp
        simp only [eand]
        rw [if_neg h1, if_pos h2]
      · by_cases h3 : kind = 3
        · refine (u0e (u43 (e := 4) (by decide) (Runs.bind (u6j (u := [94]) (n := 1) (by simp)) rfs)) km (fun s => ?_)).mono (by omega)
          unfold gComp
          simp only [eand, Bool.false_and]
          rw [if_neg h1, if_neg h2, if_pos h3]
        · refine (u0e (u43 (e := 4) (by decide) rfs) km (fun s => ?_)).mono (by omega)
          unfold gComp
          simp only
          rw [if_neg h1, if_neg h2, if_neg h3]
end Go.Proofs.YthnmienjiangkaaGreatDoor.Pi.Q
namespace Go.Proofs.YthnmienjiangkaaGreatDoor.Pi.Q
open Go Go.Proofs.YthnmienjiangkaaGreatDoor.Pi
attribute [local congr] ite_congr
def ST.w (v : ST) : Prop := (∀ a ∈ v.sup, I64 a) ∧ v.comp.w
def nSub (v : ST) : Nat := 20 + 10 * v.sup.length + nComp v.comp
theorem uw6 {v : ST} (hf : v.fit) (hw : v.w) : Sim (nSub v) (kSub v) (gSub v) := by
  have hc := uyd hf.2 hw.2
  have hs := ufs (most := 1000) hf.1 (fun n hn => uhs (hw.1 n hn).2)
  unfold nSub
  by_cases h : v.fin = true ∧ (v.sup.length : Int) = 0
  · refine (u0e hc (fun acc => ?_) (fun s => ?_)).mono (by omega)
    · unfold kSub; rw [if_pos h]
    · unfold gSub; rw [if_pos ⟨h.1, by omega⟩]
  · refine (u0e (Sim.bind (u2u (u := [if v.fin then 79 else 80]) (n := 1) (by simp)) (Sim.bind hs hc)) (fun acc => ?_) (fun s => ?_)).mono (by omega)
    · unfold kSub
      rw [if_neg h]
      have e1 : (if v.fin = true then kPut [79] acc else kPut [80] acc) = kPut [if v.fin then 79 else 80] acc := by split <;> rfl
      rw [e1]
    · unfold gSub
      rw [if_neg (fun k => h ⟨k.1, by omega⟩)]
      congr 1
      funext _ s
      cases gMany v.sup.length 1000 s <;> rfl
def RT.w (v : RT) : Prop := ∀ t ∈ v.types, t.w
theorem uqx {α : Type} {n : α → Nat} {k : α → List UInt8 → KR} {g : α → WS → GR} : ∀ (l : List α), (∀ v ∈ l, Sim (n v) (k v) (g v)) → Sim (sumL n l) (kAll k l) (gAll g l)
  | [], h => ⟨fun acc ha => .inl ⟨acc, by simp, rfl, rfl⟩, fun acc e he ha => ⟨acc, by simp, rfl⟩⟩
  | v :: l, h => by
    have := Sim.bind (h v (by simp)) (uqx l (fun u hu => h u (by simp [hu])))
    exact u0e this (fun acc => rfl) (fun s => rfl)
def nRec (v : RT) : Nat := 20 + sumL nSub v.types
theorem v018 {v : RT} (hf : v.fit) (hw : v.w) (hn : nRec v ≤ 140737488355328) : (∃ a, a.length ≤ nRec v ∧ kRec v [] = .ok () a ∧ gRec v = .ok () ⟨a, 0⟩) ∨ (∃ e b, e ≠ 0 ∧ kRec v [] = .err u02 [0, e] ∧ gRec v = .ok () ⟨b, e⟩) := by
  have ha := uqx v.types (fun t ht => uw6 (hf.2 t ht) (hw t ht))
  have fin : ∀ {n k g}, Sim n k g → n ≤ nRec v → kRec v [] = k [] → gRec v = g ⟨[], 0⟩ → (∃ a, a.length ≤ nRec v ∧ kRec v [] = .ok () a ∧ gRec v = .ok () ⟨a, 0⟩) ∨ (∃ e b, e ≠ 0 ∧ kRec v [] = .err u02 [0, e] ∧ gRec v = .ok () ⟨b, e⟩) := fun h hle hk hg => by
    rcases h.1 [] (by simp; omega) with ⟨a, h1, h2, h3⟩ | ⟨e, b, h1, h2, h3, h4⟩
    · exact .inl ⟨a, by simp at h1; omega, by rw [hk, h2], by rw [hg, h3]⟩
    · exact .inr ⟨e, b, h1, by rw [hk, h3], by rw [hg, h4]⟩
  have many : (v.types.length : Int) ≠ 1 → (∃ a, a.length ≤ nRec v ∧ kRec v [] = .ok () a ∧ gRec v = .ok () ⟨a, 0⟩) ∨ (∃ e b, e ≠ 0 ∧ kRec v [] = .err u02 [0, e] ∧ gRec v = .ok () ⟨b, e⟩) := fun h1 => by
    have hten : (putU v.types.length).length ≤ 10 := ua2 (by have := hf.1; omega)
    have hk : kRec v [] = ((kPut [78] []).bind fun _ acc => kEach 10000 kSub v.types acc) := by
      unfold kRec
      match hv : v.types with
      | [] => rfl
      | [t] => rw [hv] at h1; simp at h1
      | t :: u :: r => rfl
    have hg : gRec v = ((gPut [78] ⟨[], 0⟩).bind fun _ s => (gMany v.types.length 10000 s).bind fun _ s => gAll gSub v.types s) := by
      unfold gRec
      rw [if_neg h1]
    have he : Sim (10 + sumL nSub v.types) (kEach 10000 kSub v.types) (fun s => (gMany v.types.length 10000 s).bind fun _ s => gAll gSub v.types s) := by
      by_cases hm : 10000 < v.types.length
      · refine u0e (u43 (e := 2) (g := fun s => (gPut (putU v.types.length) s).bind fun _ s => gAll gSub v.types s) (by decide) (Sim.bind (u2u hten) ha).runs) (fun acc => ?_) (fun s => ?_)
        · unfold kEach; rw [if_pos hm]
        · unfold gMany
          rw [decide_eq_false (by omega), Int.toNat_natCast]
      · refine u0e (Sim.bind (u2u hten) ha) (fun acc => ?_) (fun s => ?_)
        · unfold kEach; rw [if_neg hm]
        · unfold gMany
          rw [decide_eq_true (by omega), u7j, Int.toNat_natCast]
    exact fin (Sim.bind (u2u (u := [78]) (n := 1) (by simp)) he) (by unfold nRec; omega) hk hg
  match hv : v.types with
  | [] => exact many (by rw [hv]; decide)
  | t :: u :: r => exact many (by rw [hv]; simp; omega)
  | [t] =>
    have ht := uw6 (hf.2 t (by rw [hv]; simp)) (hw t (by rw [hv]; simp))
    refine fin ht (by unfold nRec; rw [hv]; simp only [sumL]; omega) (by unfold kRec; rw [hv]) ?_
    unfold gRec
    rw [hv, if_pos (by rfl)]
    simp only [gAll]
    cases gSub t ⟨[], 0⟩ <;> rfl
theorem ujj {v : LT} (h1 : 0 ≤ v.min ∧ v.min < 18446744073709551616) (h2 : 0 ≤ v.max ∧ v.max < 18446744073709551616) : Sim 21 (u9a v) (ukt v) := by
  obtain ⟨wide, min, max, has⟩ := v
  simp only at h1 h2
  have p1 : (putU min.toNat).length ≤ 10 := ua2 (by omega)
  have p2 : (putU max.toNat).length ≤ 10 := ua2 (by omega)
  have s1 := u2u (u := [if has then (if wide then 5 else 1) else (if wide then 4 else 0)]) (n := 1) (by simp)
  have s2 : Sim (0 + 10) (fun acc => (kMust (wide || decide (min < 4294967296)) acc).bind fun _ acc => kU min acc) (fun s => (Res.ok () (gMust (wide || decide (min < 4294967296)) 4 s) : GR).bind fun _ s => gPut (putU min.toNat) s) := Sim.bind (ufw (by decide) rfl) (u2u p1)
  have s3 : Sim (0 + 10) (fun acc => (if has = true ∨ max = 0 then kMust (wide || decide (max < 4294967296)) acc else .err u02 [0, 4] : KR).bind fun _ acc => if has = true then kU max acc else .ok () acc)
      (fun s => (Res.ok () (gMust (if wide = true ∨ max < 4294967296 then (has || (max == 0)) else false) 4 s) : GR).bind fun _ s => if has = true then gPut (putU max.toNat) s else .ok () s) := by
    refine Sim.bind ?_ ?_
    · refine u0e (ufw (b := (if wide = true ∨ max < 4294967296 then (has || (max == 0)) else false)) (e := 4) (by decide) rfl) (fun acc => ?_) (fun s => rfl)
      by_cases a1 : has = true ∨ max = 0
      · rw [if_pos a1]
        have e1 : (has || (max == 0)) = true := by rcases a1 with h | h <;> simp [h]
        rw [e1]
        unfold kMust
        by_cases a2 : wide = true ∨ max < 4294967296
        · rw [if_pos a2]
          have e2 : (wide || decide (max < 4294967296)) = true := by rcases a2 with h | h <;> simp [h]
          rw [e2]
        · rw [if_neg a2]
          have e2 : (wide || decide (max < 4294967296)) = false := by
            rw [Bool.eq_false_iff]; intro h; apply a2
            simpa using h
          rw [e2]
      · rw [if_neg a1]
        have e1 : (has || (max == 0)) = false := by
          rw [Bool.eq_false_iff]; intro h; apply a1
          simpa using h
        rw [e1]
        simp
    · cases has
      · exact ⟨fun acc ha => .inl ⟨acc, by omega, rfl, rfl⟩, fun acc e he ha => ⟨acc, by omega, rfl⟩⟩
      · exact u2u p2
  refine (u0e (Sim.bind s1 (Sim.bind s2 s3)) (fun acc => ?_) (fun s => ?_)).mono (by omega)
  · unfold u9a
    simp only
    congr 1
    funext _ acc
    cases kMust (wide || decide (min < 4294967296)) acc <;> rfl
  · unfold ukt
    simp only
    congr 1
def Both (k : KR) (g : GR) : Prop := (∃ a, k = .ok () a ∧ g = .ok () ⟨a, 0⟩) ∨ (∃ e b, e ≠ 0 ∧ k = .err u02 [0, e] ∧ g = .ok () ⟨b, e⟩)
theorem Sim.both {n : Nat} {k : List UInt8 → KR} {g : WS → GR} (h : Sim n k g) (hn : n ≤ 140737488355328) : Both (k []) (g ⟨[], 0⟩) := by
  rcases h.1 [] (by simpa using hn) with ⟨a, h1, h2, h3⟩ | ⟨e, b, h1, h2, h3, h4⟩
  · exact .inl ⟨a, h2, h3⟩
  · exact .inr ⟨e, b, h1, h3, h4⟩
end Go.Proofs.YthnmienjiangkaaGreatDoor.Pi.Q
namespace Go.Proofs.YthnmienjiangkaaGreatDoor.Pi.Q
open Go Go.Proofs.YthnmienjiangkaaGreatDoor.Pi
theorem u31 {α : Type} {m : α → Nat} : ∀ (l : List α), (∀ a ∈ l, 1 ≤ m a) → l.length ≤ sumL m l
  | [], _ => Nat.le_refl _
  | a :: l, h => by
    have h1 := h a (by simp)
    have h2 := u31 l (fun b hb => h b (by simp [hb]))
    simp only [List.length_cons, sumL]
    omega
theorem uof {α : Type} {m n : α → Nat} {k : Nat} : ∀ (l : List α), (∀ a ∈ l, n a ≤ k * m a) → sumL n l ≤ k * sumL m l
  | [], _ => Nat.zero_le _
  | a :: l, h => by
    have h1 := h a (by simp)
    have h2 := uof l (fun b hb => h b (by simp [hb]))
    simp only [sumL]
    rw [Nat.mul_add]
    omega
theorem ul0 {α β : Type} {m : β → Nat} {f : α → β} : ∀ (l : List α), sumL m (l.map f) = sumL (fun a => m (f a)) l
  | [] => rfl
  | a :: l => by simp only [List.map_cons, sumL, ul0 l]
theorem uqi {α : Type} {m : α → Nat} : ∀ (l : List α) (a : α), a ∈ l → m a ≤ sumL m l
  | b :: l, a, h => by
    simp only [sumL]
    rcases List.mem_cons.mp h with rfl | h
    · omega
    · have := uqi (m := m) l a h
      omega
theorem i64_of {n : Int} (h : (Lit.int .i64 n).wf = true) : I64 n := wf_i64 h
theorem v_of {v : VT} (h : ok_V v) : I64 v.heap := i64_of h.2.2.1
theorem cg_len {v : CG} : v.ps.l.length ≤ ms_CG v ∧ v.rs.l.length ≤ ms_CG v ∧ v.fs.l.length ≤ ms_CG v := by
  have h1 := u31 (m := fun a => ms_V a) v.ps.l (fun a _ => by unfold ms_V; omega)
  have h2 := u31 (m := fun a => ms_V a) v.rs.l (fun a _ => by unfold ms_V; omega)
  have h3 := u31 (m := fun a => ms_F a) v.fs.l (fun a _ => by unfold ms_F; omega)
  unfold ms_CG
  omega
theorem cg_w {v : CG} (h : ok_CG v) : v.plain.w := by
  obtain ⟨_, h1, h2, h3, _⟩ := h
  exact ⟨fun a ha => v_of (h1 a ha), fun a ha => v_of (h2 a ha), fun a ha => v_of (h3 a ha).1⟩
theorem w_wide {v : CT} (h : v.w) : v.wide := ⟨fun a ha => (h.1 a ha).2, fun a ha => (h.2.1 a ha).2, fun a ha => (h.2.2 a ha).2⟩
theorem cg_n {v : CG} : nComp v.plain ≤ 40 * ms_CG v := by
  have h1 := u31 (m := fun a => ms_V a) v.ps.l (fun a _ => by unfold ms_V; omega)
  have h2 := u31 (m := fun a => ms_V a) v.rs.l (fun a _ => by unfold ms_V; omega)
  have h3 := u31 (m := fun a => ms_F a) v.fs.l (fun a _ => by unfold ms_F; omega)
  unfold ms_CG nComp CG.plain
  simp only
  omega
theorem sg_len {v : SG} : v.sup.l.length ≤ ms_SG v := by
  have h1 := u31 (m := fun _ => 1) v.sup.l (fun a _ => Nat.le_refl _)
  unfold ms_SG
  omega
theorem sg_w {v : SG} (h : ok_SG v) : v.plain.w := by
  obtain ⟨_, h1, h2, _⟩ := h
  exact ⟨fun a ha => i64_of (h1 a ha), cg_w h2⟩
theorem sg_n {v : SG} : nSub v.plain ≤ 60 * ms_SG v := by
  have h1 := u31 (m := fun _ => 1) v.sup.l (fun a _ => Nat.le_refl _)
  have h2 := cg_n (v := v.comp)
  unfold nSub SG.plain ms_SG
  simp only
  omega
theorem sg_fit {v : SG} (h : ms_SG v ≤ 1048576) : v.plain.fit := by
  have h1 := sg_len (v := v)
  have h2 := cg_len (v := v.comp)
  have h3 : ms_CG v.comp ≤ ms_SG v := by unfold ms_SG; omega
  exact ⟨by show v.sup.l.length < _; omega, by show v.comp.ps.l.length < _; omega, by show v.comp.rs.l.length < _; omega, by show v.comp.fs.l.length < _; omega⟩
theorem rg_all {v : RG} (h : ok_RG v) (hm : ms_RG v ≤ 1048576) : v.fit ∧ v.plain.fit ∧ v.plain.w ∧ v.plain.wide ∧ nRec v.plain ≤ 140737488355328 := by
  have h1 := u31 (m := fun a => ms_SG a) v.types.l (fun a _ => by unfold ms_SG; omega)
  have hs : sumL (fun a => ms_SG a) v.types.l ≤ ms_RG v := by unfold ms_RG; omega
  have hf : ∀ t ∈ v.types.l, t.plain.fit := fun t ht => sg_fit (by have := uqi (m := fun a => ms_SG a) _ t ht; omega)
  have hw : v.plain.w := fun t ht => by
    simp only [RG.plain, List.mem_map] at ht
    obtain ⟨s, hs, rfl⟩ := ht
    exact sg_w (h.1 s hs)
  refine ⟨⟨by omega, hf⟩, ⟨by simp only [RG.plain, List.length_map]; omega, fun t ht => ?_⟩, hw, fun t ht => ?_, ?_⟩
  · simp only [RG.plain, List.mem_map] at ht
    obtain ⟨s, hs, rfl⟩ := ht
    exact hf s hs
  · have := hw t ht
    exact ⟨fun a ha => (this.1 a ha).2, w_wide this.2⟩
  · unfold nRec RG.plain
    simp only [ul0]
    have := uof (m := fun a => ms_SG a) (n := fun a => nSub a.plain) (k := 60) v.types.l (fun a _ => sg_n)
    omega
end Go.Proofs.YthnmienjiangkaaGreatDoor.Pi.Q
namespace Go.Proofs.YthnmienjiangkaaGreatDoor.Pi.Q
open Go Go.Proofs.YthnmienjiangkaaGreatDoor.Pi
theorem ug1 (c : Nat) : Lib.firstT c < 256 := by
  unfold Lib.firstT
  repeat' split
  all_goals omega
attribute [local congr] ite_congr
variable {H : Heap} {z : Bool}
theorem uoc : ∀ c ∈ List.range 256, firstC.drop c = .int .u8 (Lib.firstT c) :: firstC.drop (c + 1) := fun c hc => by
  have hl : firstC.length = 256 := by unfold firstC; rw [List.length_map, List.length_range]
  have h : c < firstC.length := by rw [hl]; exact List.mem_range.mp hc
  rw [List.drop_eq_getElem_cons h]
  congr 1
  simp [firstC]
theorem ug7 {c : Nat} (h : c < 256) : run (iaA 256 1 (GT 0) (.int .u8 c)) H = some (.ok (.elem (.int .u8 (Lib.firstT c) :: firstC.drop (c + 1))) H) := by
  rw [GT_0, ← uoc c (List.mem_range.mpr h)]
  unfold run iaA
  have h1 : decide ((0 : Int) ≤ (c : Int)) = true := decide_eq_true (by omega)
  have h2 : decide ((c : Int) < ((256 : Nat) : Int)) = true := decide_eq_true (by omega)
  simp only [h1, h2, Bool.and_self, cond_true, Int.toNat_natCast, Nat.mul_one, M.pure]
theorem uvr : ∀ i ∈ List.range 16, accC.drop (i * 2) = .int .u8 (Lib.accLo i) :: .int .u8 (Lib.accHi i) :: accC.drop (i * 2 + 2) := by
  intro i hi
  have h := List.mem_range.mp hi
  have : i = 0 ∨ i = 1 ∨ i = 2 ∨ i = 3 ∨ i = 4 ∨ i = 5 ∨ i = 6 ∨ i = 7 ∨ i = 8 ∨ i = 9 ∨ i = 10 ∨ i = 11 ∨ i = 12 ∨ i = 13 ∨ i = 14 ∨ i = 15 := by omega
  rcases this with rfl | rfl | rfl | rfl | rfl | rfl | rfl | rfl | rfl | rfl | rfl | rfl | rfl | rfl | rfl | rfl <;> rfl
theorem uoe {i : Nat} (h : i < 16) : run (iaA 16 2 (GT 1) (.int .u8 i)) H = some (.ok (.elem (.int .u8 (Lib.accLo i) :: .int .u8 (Lib.accHi i) :: accC.drop (i * 2 + 2))) H) := by
  rw [GT_1, ← uvr i (List.mem_range.mpr h)]
  unfold run iaA
  have h1 : decide ((0 : Int) ≤ (i : Int)) = true := decide_eq_true (by omega)
  have h2 : decide ((i : Int) < ((16 : Nat) : Int)) = true := decide_eq_true (by omega)
  simp only [h1, h2, Bool.and_self, cond_true, Int.toNat_natCast, M.pure]
theorem and7 : ∀ n ∈ List.range 256, bi .and .none (.int .u8 (n : Nat)) (.int .u8 7) = M.pure (.int .u8 ((n % 8 : Nat) : Int)) := by
  intro n hn
  have h := List.mem_range.mp hn
  rw [ua0]
  have : (BitVec.ofInt IntKind.u8.bits (n : Int) &&& BitVec.ofInt IntKind.u8.bits 7).toNat = n % 8 := by
    rw [BitVec.toNat_and, BitVec.toNat_ofInt, BitVec.toNat_ofInt, show IntKind.u8.bits = 8 from rfl]
    rw [show ((7 : Int) % ((2 ^ 8 : Nat) : Int)).toNat = 2 ^ 3 - 1 from rfl, Nat.and_two_pow_sub_one_eq_mod]
    omega
  rw [this, w_u8 (by omega)]
theorem uo5 {c : Nat} : bi .and .none (.int .u8 (Lib.firstT c : Nat)) (.int .u8 7) = M.pure (.int .u8 ((Lib.firstT c % 8 : Nat) : Int)) := and7 _ (List.mem_range.mpr (ug1 c))
theorem up4 {n : Nat} (h : n < 256) : bi .shr .none (.int .u8 (n : Nat)) (.int .u64 4) = M.pure (.int .u8 ((n / 16 : Nat) : Int)) := by
  rw [ucz (by omega), show shiftN .u8 4 = 4 from rfl, Int.fdiv_eq_ediv_of_nonneg _ (by omega)]
  congr 2
def fullN (n c0 c1 c2 : Nat) : Bool :=
  if n = 0 then false else if Lib.firstT c0 % 8 ≤ n then true
  else if 1 < n ∧ (c1 < Lib.accLo (Lib.firstT c0 / 16) ∨ Lib.accHi (Lib.firstT c0 / 16) < c1) then true
  else decide (2 < n ∧ (c2 < 128 ∨ 191 < c2))
def bN (p : List UInt8) (i : Nat) : Nat := (p.getD i 0).toNat
theorem bN_lt {p : List UInt8} {i : Nat} : bN p i < 256 := (p.getD i 0).toNat_lt
def fullL (p : List UInt8) : Bool := fullN p.length (bN p 0) (bN p 1) (bN p 2)
theorem iaB {p : List UInt8} {i : Nat} (h : i < p.length) : run (iaS 1 (BS z p) (.int .i64 i)) H = some (.ok (.elem [.int .u8 (bN p i : Nat)]) H) := by
  rw [uki (by omega), Int.toNat_natCast, ul2 h]
  unfold bN byt
  rw [List.getD_eq_getElem?_getD, List.getElem?_eq_getElem h]
  rfl
theorem uzx {p : List UInt8} (hp : p.length < 2 ^ 61) : run (C u4s [BS z p]) H = some (.ok (.bool (fullL p)) H) := by
  have hf := ug1 (bN p 0)
  have hia := fun K => ug7 (H := K) (c := bN p 0) bN_lt
  have hac := fun K => uoe (H := K) (i := Lib.firstT (bN p 0) / 16) (by omega)
  have w1 : IntKind.i64.wrap ((Lib.firstT (bN p 0) % 8 : Nat) : Int) = ((Lib.firstT (bN p 0) % 8 : Nat) : Int) := w_i64 (by omega)
  have s4 := up4 hf
  have a7 := uo5 (c := bN p 0)
  have r0 := fun (h : 0 < p.length) K => iaB (H := K) (z := z) h
  have r1 := fun (h : 1 < p.length) K => iaB (H := K) (z := z) h
  have r2 := fun (h : 2 < p.length) K => iaB (H := K) (z := z) h
  simp only [show ((0 : Nat) : Int) = 0 from rfl, show ((1 : Nat) : Int) = 1 from rfl, show ((2 : Nat) : Int) = 2 from rfl] at r0 r1 r2
  rw [u9o]
  unfold fullL fullN
  generalize bN p 0 = c0 at *
  generalize Lib.firstT c0 = x at *
  by_cases hn : p.length = 0
  · have hn' : ((p.length : Int) = 0) = True := eq_true (by omega)
    rw [if_pos hn]
    simp +contextual -dsimp (disch := omega) only [↓goDown, goUp, cr, simprocAttr, List.length_map, hn']
  · have hn' : ((p.length : Int) = 0) = False := eq_false (by omega)
    rw [if_neg hn]
    have r0 := r0 (by omega)
    by_cases h1 : x % 8 ≤ p.length
    · have h1' : (((x % 8 : Nat) : Int) ≤ (p.length : Int)) = True := eq_true (by omega)
      rw [if_pos h1]
      simp +contextual -dsimp (disch := omega) only [↓goDown, goUp, cr, simprocAttr, List.length_map, hn', r0, hia, a7, w1, h1']
    · have h1' : (((x % 8 : Nat) : Int) ≤ (p.length : Int)) = False := eq_false (by omega)
      rw [if_neg h1]
      by_cases hn1 : 1 < p.length
      · have g1 : ((1 : Int) < (p.length : Int)) = True := eq_true (by omega)
        have r1 := r1 hn1
        generalize bN p 1 = c1 at *
        by_cases hlo : c1 < Lib.accLo (x / 16)
        · have hlo' : ((c1 : Int) < (Lib.accLo (x / 16) : Int)) = True := eq_true (by omega)
          rw [if_pos ⟨hn1, .inl hlo⟩]
          simp +contextual -dsimp (disch := omega) only [↓goDown, goUp, cr, simprocAttr, List.length_map, hn', r0, hia, a7, w1, h1', s4, hac, g1, r1, hlo']
        · have hlo' : ((c1 : Int) < (Lib.accLo (x / 16) : Int)) = False := eq_false (by omega)
          by_cases hhi : Lib.accHi (x / 16) < c1
          · have hhi' : ((Lib.accHi (x / 16) : Int) < (c1 : Int)) = True := eq_true (by omega)
            rw [if_pos ⟨hn1, .inr hhi⟩]
            simp +contextual -dsimp (disch := omega) only [↓goDown, goUp, cr, simprocAttr, List.length_map, hn', r0, hia, a7, w1, h1', s4, hac, g1, r1, hlo', hhi']
          · have hhi' : ((Lib.accHi (x / 16) : Int) < (c1 : Int)) = False := eq_false (by omega)
            rw [if_neg (fun h => by omega)]
            by_cases hn2 : 2 < p.length
            · have g2 : ((2 : Int) < (p.length : Int)) = True := eq_true (by omega)
              have r2 := r2 hn2
              generalize bN p 2 = c2 at *
              by_cases l2 : c2 < 128
              · have l2' : ((c2 : Int) < 128) = True := eq_true (by omega)
                rw [decide_eq_true (by omega)]
                simp +contextual -dsimp (disch := omega) only [↓goDown, goUp, cr, simprocAttr, List.length_map, hn', r0, hia, a7, w1, h1', s4, hac, g1, r1, hlo', hhi', g2, r2, l2']
              · have l2' : ((c2 : Int) < 128) = False := eq_false (by omega)
                by_cases u2 : 191 < c2
                · have u2' : ((191 : Int) < (c2 : Int)) = True := eq_true (by omega)
                  rw [decide_eq_true (by omega)]
                  simp +contextual -dsimp (disch := omega) only [↓goDown, goUp, cr, simprocAttr, List.length_map, hn', r0, hia, a7, w1, h1', s4, hac, g1, r1, hlo', hhi', g2, r2, l2', u2']
                · have u2' : ((191 : Int) < (c2 : Int)) = False := eq_false (by omega)
                  rw [decide_eq_false (by omega)]
                  simp +contextual -dsimp (disch := omega) only [↓goDown, goUp, cr, simprocAttr, List.length_map, hn', r0, hia, a7, w1, h1', s4, hac, g1, r1, hlo', hhi', g2, r2, l2', u2']
            · have g2 : ((2 : Int) < (p.length : Int)) = False := eq_false (by omega)
              rw [decide_eq_false (by omega)]
              simp +contextual -dsimp (disch := omega) only [↓goDown, goUp, cr, simprocAttr, List.length_map, hn', r0, hia, a7, w1, h1', s4, hac, g1, r1, hlo', hhi', g2]
      · have g1 : ((1 : Int) < (p.length : Int)) = False := eq_false (by omega)
        have g2 : ((2 : Int) < (p.length : Int)) = False := eq_false (by omega)
        rw [if_neg (fun h => hn1 h.1), decide_eq_false (by omega)]
        simp +contextual -dsimp (disch := omega) only [↓goDown, goUp, cr, simprocAttr, List.length_map, hn', r0, hia, a7, w1, h1', s4, hac, g1, g2]
end Go.Proofs.YthnmienjiangkaaGreatDoor.Pi.Q
namespace Go.Proofs.YthnmienjiangkaaGreatDoor.Pi.Q
open Go Go.Proofs.YthnmienjiangkaaGreatDoor.Pi
def letN (n c0 c1 c2 c3 : Nat) : Nat :=
  if c0 < 128 then 1 else if 240 ≤ Lib.firstT c0 then 0 else if n < Lib.firstT c0 % 8 then 0
  else if c1 < Lib.accLo (Lib.firstT c0 / 16) ∨ Lib.accHi (Lib.firstT c0 / 16) < c1 then 0 else if Lib.firstT c0 % 8 ≤ 2 then 2
  else if c2 < 128 ∨ 191 < c2 then 0 else if Lib.firstT c0 % 8 ≤ 3 then 3 else if c3 < 128 ∨ 191 < c3 then 0 else 4
theorem uky {c : Nat} (h0 : 128 ≤ c) (h : 240 ≤ Lib.firstT c) : Lib.firstT c = 241 := by
  unfold Lib.firstT at h ⊢
  repeat' split
  all_goals first | rfl | (exfalso; omega) | skip
  all_goals (repeat' split at h) <;> first | rfl | omega
theorem udu {c : Nat} (h0 : 128 ≤ c) (h : ¬ 240 ≤ Lib.firstT c) : Lib.firstT c % 8 = 2 ∨ Lib.firstT c % 8 = 3 ∨ Lib.firstT c % 8 = 4 := by
  unfold Lib.firstT at h ⊢
  repeat' split
  all_goals first | omega | (exfalso; repeat' split at h) <;> omega
attribute [local congr] ite_congr
variable {H : Heap} {z : Bool}
theorem usx {a : Int} : bi .andNot .none (.int .i32 a) (.int .i32 (-1)) = M.pure (.int .i32 0) := by
  show M.pure (PV.int .i32 (IntKind.i32.wrap ((BitVec.ofInt 32 a &&& ~~~ BitVec.ofInt 32 (-1)).toNat : Int))) = _
  have : (BitVec.ofInt 32 a &&& ~~~ BitVec.ofInt 32 (-1)) = 0#32 := by
    rw [show ~~~ BitVec.ofInt 32 (-1) = 0#32 by decide, BitVec.and_zero]
  rw [this]
  rfl
theorem uzq : (IntKind.i32.wrap (241 * 2 ^ shiftN IntKind.i32 31)).fdiv (2 ^ shiftN IntKind.i32 31) = -1 := by decide +kernel
theorem v00f : bi .and .none (.int .i32 65533) (.int .i32 (-1)) = M.pure (.int .i32 65533) := rfl
theorem or_err : bi .or .none (.int .i32 0) (.int .i32 65533) = M.pure (.int .i32 65533) := rfl
theorem uzs {p : List UInt8} (hp : p.length < 2 ^ 61) (h0 : 0 < p.length) (h128 : 128 ≤ bN p 0) :
    ∃ r, (letN p.length (bN p 0) (bN p 1) (bN p 2) (bN p 3) = 0 → r = 65533) ∧ ∀ H, run (C u2x [BS z p]) H = some (.ok (.tup [.int .i32 r, .int .i64 (max 1 (letN p.length (bN p 0) (bN p 1) (bN p 2) (bN p 3)) : Nat)]) H) := by
  have hf := ug1 (bN p 0)
  have hia := fun K => ug7 (H := K) (c := bN p 0) bN_lt
  have hac := fun K => uoe (H := K) (i := Lib.firstT (bN p 0) / 16) (by omega)
  have w1 : IntKind.i64.wrap ((Lib.firstT (bN p 0) % 8 : Nat) : Int) = ((Lib.firstT (bN p 0) % 8 : Nat) : Int) := w_i64 (by omega)
  have s4 := up4 hf
  have a7 := uo5 (c := bN p 0)
  have r0 := fun K => iaB (H := K) (z := z) h0
  have r1 := fun (h : 1 < p.length) K => iaB (H := K) (z := z) h
  have r2 := fun (h : 2 < p.length) K => iaB (H := K) (z := z) h
  have r3 := fun (h : 3 < p.length) K => iaB (H := K) (z := z) h
  simp only [show ((0 : Nat) : Int) = 0 from rfl, show ((1 : Nat) : Int) = 1 from rfl, show ((2 : Nat) : Int) = 2 from rfl, show ((3 : Nat) : Int) = 3 from rfl] at r0 r1 r2 r3
  have n0 : ((p.length : Int) < 1) = False := eq_false (by omega)
  rw [u7f]
  unfold letN
  rw [if_neg (by omega)]
  by_cases hx : 240 ≤ Lib.firstT (bN p 0)
  · have ex := uky h128 hx
    rw [ex] at hia
    refine ⟨65533, fun _ => rfl, fun H => ?_⟩
    rw [if_pos hx]
    simp +contextual -dsimp (disch := omega) only [↓goDown, goUp, cr, simprocAttr, List.length_map, n0, r0, hia, uap, ucz, uzq, usx, v00f, or_err] <;> rfl
  · have hm := udu h128 hx
    have hx' : ((240 : Int) ≤ (Lib.firstT (bN p 0) : Int)) = False := eq_false (by omega)
    rw [if_neg hx]
    generalize hxx : Lib.firstT (bN p 0) = x at *
    have x16 : x / 16 < 16 := by omega
    by_cases hn : p.length < x % 8
    · have hn' : ((p.length : Int) < ((x % 8 : Nat) : Int)) = True := eq_true (by omega)
      refine ⟨65533, fun _ => rfl, fun H => ?_⟩
      rw [if_pos hn]
      simp +contextual -dsimp (disch := omega) only [↓goDown, goUp, cr, simprocAttr, List.length_map, n0, r0, hia, hx', a7, w1, s4, hac, hn'] <;> rfl
    · have hn' : ((p.length : Int) < ((x % 8 : Nat) : Int)) = False := eq_false (by omega)
      rw [if_neg hn]
      have r1 := r1 (by omega)
      generalize bN p 1 = c1 at *
      by_cases hlo : c1 < Lib.accLo (x / 16)
      · have hlo' : ((c1 : Int) < (Lib.accLo (x / 16) : Int)) = True := eq_true (by omega)
        refine ⟨65533, fun _ => rfl, fun H => ?_⟩
        rw [if_pos (.inl hlo)]
        simp +contextual -dsimp (disch := omega) only [↓goDown, goUp, cr, simprocAttr, List.length_map, n0, r0, hia, hx', a7, w1, s4, hac, hn', r1, hlo'] <;> rfl
      · have hlo' : ((c1 : Int) < (Lib.accLo (x / 16) : Int)) = False := eq_false (by omega)
        by_cases hhi : Lib.accHi (x / 16) < c1
        · have hhi' : ((Lib.accHi (x / 16) : Int) < (c1 : Int)) = True := eq_true (by omega)
          refine ⟨65533, fun _ => rfl, fun H => ?_⟩
          rw [if_pos (.inr hhi)]
          simp +contextual -dsimp (disch := omega) only [↓goDown, goUp, cr, simprocAttr, List.length_map, n0, r0, hia, hx', a7, w1, s4, hac, hn', r1, hlo', hhi'] <;> rfl
        · have hhi' : ((Lib.accHi (x / 16) : Int) < (c1 : Int)) = False := eq_false (by omega)
          rw [if_neg (fun h => by omega)]
          by_cases g2 : x % 8 ≤ 2
          · have g2' : (((x % 8 : Nat) : Int) ≤ 2) = True := eq_true (by omega)
            rw [if_pos g2]
            apply Exists.intro
            refine And.intro (fun h => absurd h (by decide)) ?_
            intro H
            simp +contextual -dsimp (disch := omega) only [↓goDown, goUp, cr, simprocAttr, List.length_map, n0, r0, hia, hx', a7, w1, s4, hac, hn', r1, hlo', hhi', g2', ua0, run_or, uap]
            all_goals rfl
          · have g2' : (((x % 8 : Nat) : Int) ≤ 2) = False := eq_false (by omega)
            rw [if_neg g2]
            have r2 := r2 (by omega)
            generalize bN p 2 = c2 at *
            by_cases l2 : c2 < 128
            · have l2' : ((c2 : Int) < 128) = True := eq_true (by omega)
              refine ⟨65533, fun _ => rfl, fun H => ?_⟩
              rw [if_pos (.inl l2)]
              simp +contextual -dsimp (disch := omega) only [↓goDown, goUp, cr, simprocAttr, List.length_map, n0, r0, hia, hx', a7, w1, s4, hac, hn', r1, hlo', hhi', g2', r2, l2'] <;> rfl
            · have l2' : ((c2 : Int) < 128) = False := eq_false (by omega)
              by_cases u2 : 191 < c2
              · have u2' : ((191 : Int) < (c2 : Int)) = True := eq_true (by omega)
                refine ⟨65533, fun _ => rfl, fun H => ?_⟩
                rw [if_pos (.inr u2)]
                simp +contextual -dsimp (disch := omega) only [↓goDown, goUp, cr, simprocAttr, List.length_map, n0, r0, hia, hx', a7, w1, s4, hac, hn', r1, hlo', hhi', g2', r2, l2', u2'] <;> rfl
              · have u2' : ((191 : Int) < (c2 : Int)) = False := eq_false (by omega)
                rw [if_neg (fun h => by omega)]
                by_cases g3 : x % 8 ≤ 3
                · have g3' : (((x % 8 : Nat) : Int) ≤ 3) = True := eq_true (by omega)
                  rw [if_pos g3]
                  apply Exists.intro
                  refine And.intro (fun h => absurd h (by decide)) ?_
                  intro H
                  simp +contextual -dsimp (disch := omega) only [↓goDown, goUp, cr, simprocAttr, List.length_map, n0, r0, hia, hx', a7, w1, s4, hac, hn', r1, hlo', hhi', g2', r2, l2', u2', g3', ua0, run_or, uap]
                  all_goals rfl
                · have g3' : (((x % 8 : Nat) : Int) ≤ 3) = False := eq_false (by omega)
                  rw [if_neg g3]
                  have r3 := r3 (by omega)
                  generalize bN p 3 = c3 at *
                  by_cases l3 : c3 < 128
                  · have l3' : ((c3 : Int) < 128) = True := eq_true (by omega)
                    refine ⟨65533, fun _ => rfl, fun H => ?_⟩
                    rw [if_pos (.inl l3)]
                    simp +contextual -dsimp (disch := omega) only [↓goDown, goUp, cr, simprocAttr, List.length_map, n0, r0, hia, hx', a7, w1, s4, hac, hn', r1, hlo', hhi', g2', r2, l2', u2', g3', r3, l3'] <;> rfl
                  · have l3' : ((c3 : Int) < 128) = False := eq_false (by omega)
                    by_cases u3 : 191 < c3
                    · have u3' : ((191 : Int) < (c3 : Int)) = True := eq_true (by omega)
                      refine ⟨65533, fun _ => rfl, fun H => ?_⟩
                      rw [if_pos (.inr u3)]
                      simp +contextual -dsimp (disch := omega) only [↓goDown, goUp, cr, simprocAttr, List.length_map, n0, r0, hia, hx', a7, w1, s4, hac, hn', r1, hlo', hhi', g2', r2, l2', u2', g3', r3, l3', u3'] <;> rfl
                    · have u3' : ((191 : Int) < (c3 : Int)) = False := eq_false (by omega)
                      rw [if_neg (fun h => by omega)]
                      apply Exists.intro
                      refine And.intro (fun h => absurd h (by decide)) ?_
                      intro H
                      simp +contextual -dsimp (disch := omega) only [↓goDown, goUp, cr, simprocAttr, List.length_map, n0, r0, hia, hx', a7, w1, s4, hac, hn', r1, hlo', hhi', g2', r2, l2', u2', g3', r3, l3', u3', ua0, run_or, uap]
                      all_goals rfl
def letL (p : List UInt8) : Nat := letN p.length (bN p 0) (bN p 1) (bN p 2) (bN p 3)
theorem dec_is {p : List UInt8} (hp : p.length < 2 ^ 61) (h0 : 0 < p.length) :
    ∃ r : Int, (letL p = 0 → r = 65533) ∧ (letL p = 1 → r ≠ 65533) ∧ ∀ K, run (C u1w [BS z p]) K = some (.ok (.tup [.int .i32 r, .int .i64 (max 1 (letL p) : Nat)]) K) := by
  have r0 := fun K => iaB (H := K) (z := z) h0
  simp only [show ((0 : Nat) : Int) = 0 from rfl] at r0
  have n0 : ((0 : Int) < (p.length : Int)) = True := eq_true (by omega)
  by_cases h128 : bN p 0 < 128
  · have e : letL p = 1 := by unfold letL letN; rw [if_pos h128]
    have h' : ((bN p 0 : Int) < 128) = True := eq_true (by omega)
    refine ⟨(bN p 0 : Nat), fun h => by omega, fun h => by omega, fun K => ?_⟩
    rw [u5r, e]
    simp +contextual -dsimp (disch := omega) only [↓goDown, goUp, cr, simprocAttr, u3t, List.length_map, n0, r0, h'] <;> rfl
  · have h' : ((bN p 0 : Int) < 128) = False := eq_false (by omega)
    obtain ⟨r, hr, hs⟩ := uzs (z := z) hp h0 (by omega)
    have hne : letL p ≠ 1 := by
      unfold letL letN
      rw [if_neg h128]
      repeat' split
      all_goals decide
    refine ⟨r, hr, fun h => absurd h hne, fun K => ?_⟩
    rw [u5r]
    simp +contextual -dsimp (disch := omega) only [↓goDown, goUp, cr, simprocAttr, u3t, u78, List.length_map, n0, r0, h', hs] <;> rfl
end Go.Proofs.YthnmienjiangkaaGreatDoor.Pi.Q
namespace Go.Proofs.YthnmienjiangkaaGreatDoor.Pi.Q
open Go Go.Proofs.YthnmienjiangkaaGreatDoor.Pi
theorem umw {n c0 c1 c2 c3 : Nat} (h0 : 128 ≤ c0) : letN n c0 c1 c2 c3 = (Lib.checkN n c1 c2 c3 (Lib.firstT c0 % 8) (Lib.accLo (Lib.firstT c0 / 16)) (Lib.accHi (Lib.firstT c0 / 16))).getD 0 := by
  unfold letN
  rw [if_neg (by omega)]
  by_cases hx : 240 ≤ Lib.firstT c0
  · rw [if_pos hx, uky h0 hx]
    rfl
  · have hm := udu h0 hx
    rw [if_neg hx]
    generalize Lib.accLo (Lib.firstT c0 / 16) = lo
    generalize Lib.accHi (Lib.firstT c0 / 16) = hi
    generalize Lib.firstT c0 % 8 = s at *
    unfold Lib.checkN
    rcases hm with rfl | rfl | rfl <;> simp only [Nat.reduceEqDiff, Nat.reduceLeDiff, ↓reduceIte] <;> repeat' split
    all_goals first | rfl | (exfalso; omega)
theorem ux6 {n c0 c1 c2 c3 : Nat} (hn : 1 ≤ n) (h0 : c0 < 256) (h1 : c1 < 256) (h2 : c2 < 256) (h3 : c3 < 256) (h : letN n c0 c1 c2 c3 ≠ 0) : (Lib.decodeN n c0 c1 c2 c3).2 = letN n c0 c1 c2 c3 := by
  by_cases ha : c0 < 128
  · unfold letN Lib.decodeN
    rw [if_pos ha, if_pos ha]
  · have e := umw (n := n) (c1 := c1) (c2 := c2) (c3 := c3) (show 128 ≤ c0 by omega)
    rcases Lib.check_decode n c0 c1 c2 c3 hn (by omega) h0 h1 h2 h3 with ⟨g1, g2⟩ | ⟨k, g1, g2, g3⟩
    · rw [g1] at e; exact absurd e h
    · rw [g2] at e; rw [g3, e]; rfl
end Go.Proofs.YthnmienjiangkaaGreatDoor.Pi.Q
namespace Go.Proofs.YthnmienjiangkaaGreatDoor.Pi.Q
open Go Go.Proofs.YthnmienjiangkaaGreatDoor.Pi
def opF (c0 c1 c2 : Nat) : Nat → Nat
  | 0 => 0
  | n + 1 => if n + 1 < 4 ∧ fullN (n + 1) c0 c1 c2 = false then n + 1 else opF c0 c1 c2 n
theorem uk0 {x : List UInt8} {n i : Nat} (h : i < n) : bN (x.take n) i = bN x i := by
  unfold bN
  rw [List.getD_eq_getElem?_getD, List.getD_eq_getElem?_getD, List.getElem?_take, if_pos h]
theorem uuo {x : List UInt8} {n : Nat} (h : n ≤ x.length) : fullL (x.take n) = fullN n (bN x 0) (bN x 1) (bN x 2) := by
  unfold fullL
  rw [List.length_take, Nat.min_eq_left h]
  unfold fullN
  by_cases h0 : n = 0
  · rw [if_pos h0, if_pos h0]
  · rw [if_neg h0, if_neg h0, uk0 (by omega)]
    split
    · rfl
    · by_cases h1 : 1 < n
      · rw [uk0 h1]
        split
        · rfl
        · by_cases h2 : 2 < n
          · rw [uk0 h2]
          · rw [decide_eq_false (by omega), decide_eq_false (by omega)]
      · rw [if_neg (by omega), if_neg (by omega), decide_eq_false (by omega), decide_eq_false (by omega)]
theorem uzv {n c0 c1 c2 c3 : Nat} (hn : 1 ≤ n) : letN n c0 c1 c2 c3 ≤ n := by
  by_cases h0 : c0 < 128
  · unfold letN
    rw [if_pos h0]
    exact hn
  · by_cases hx : 240 ≤ Lib.firstT c0
    · unfold letN
      rw [if_neg h0, if_pos hx]
      exact Nat.zero_le _
    · have hm := udu (by omega) hx
      unfold letN
      rw [if_neg h0, if_neg hx]
      generalize Lib.firstT c0 % 8 = s at *
      repeat' split
      all_goals omega
theorem ujb {b : List UInt8} {a : Nat} (ha : a < b.length) : a + letL (b.drop a) ≤ b.length := by
  have := uzv (n := (b.drop a).length) (c0 := bN (b.drop a) 0) (c1 := bN (b.drop a) 1) (c2 := bN (b.drop a) 2) (c3 := bN (b.drop a) 3) (by rw [List.length_drop]; omega)
  rw [List.length_drop] at this
  unfold letL
  rw [List.length_drop]
  omega
attribute [local congr] ite_congr
variable {H : Heap} {z : Bool}
theorem uzn {x : List UInt8} {n : Nat} (h : n ≤ x.length) : run (slL 1 (BS z x) none (some (.int .i64 n))) H = some (.ok (BS z (x.take n)) H) := by
  unfold run slL bnd
  have h0 : decide ((0 : Int) ≤ (n : Int)) = true := decide_eq_true (by omega)
  simp only [h0, cond_true, Int.toNat_natCast, beq_self_eq_true, Bool.or_true, Bool.true_and, List.length_map, Nat.zero_le, decide_true, decide_eq_true h, List.drop_zero, M.pure, bytes, ← List.map_take]
theorem sl_lo {x : List UInt8} {n : Nat} (h : n ≤ x.length) : run (slL 1 (BS z x) (some (.int .i64 n)) none) H = some (.ok (BS z (x.drop n)) H) := by
  unfold run slL bnd
  have h0 : decide ((0 : Int) ≤ (n : Int)) = true := decide_eq_true (by omega)
  simp only [h0, cond_true, Int.toNat_natCast, beq_self_eq_true, Bool.or_true, Bool.true_and, List.length_map, Nat.le_refl, decide_true, decide_eq_true h, Bool.and_self, M.pure, bytes]
  rw [List.take_of_length_le (by rw [List.length_map]; exact Nat.le_refl _), ← List.map_drop]
theorem uux {x : List UInt8} {n m : Nat} (h : n ≤ m) (h' : m ≤ x.length) : run (slL 1 (BS z x) (some (.int .i64 n)) (some (.int .i64 m))) H = some (.ok (BS z ((x.take m).drop n)) H) := by
  unfold run slL bnd
  have h0 : decide ((0 : Int) ≤ (n : Int)) = true := decide_eq_true (by omega)
  have h1 : decide ((0 : Int) ≤ (m : Int)) = true := decide_eq_true (by omega)
  simp only [h0, h1, cond_true, Int.toNat_natCast, beq_self_eq_true, Bool.or_true, Bool.true_and, List.length_map, decide_eq_true h, decide_eq_true h', Bool.and_self, M.pure, bytes, ← List.map_take, ← List.map_drop]
theorem ul9 {x : List UInt8} {v2 : PV} (hx : x.length < 2 ^ 60) : ∀ (n : Nat), n ≤ x.length → run (u47 (BS z x) v2 (.int .i64 n)) H = some (.ok (.int .i64 (opF (bN x 0) (bN x 1) (bN x 2) n : Nat)) H)
  | 0, h => by
    rw [u6t]
    simp +contextual -dsimp (disch := omega) only [↓goDown, goUp, cr, simprocAttr, opF, show ((0 : Nat) : Int) = 0 from rfl, Int.lt_irrefl]
  | n + 1, h => by
    have ih := ul9 hx (v2 := v2) n (by omega)
    have hs := fun K => uzn (H := K) (z := z) h
    have hfu := fun K => uzx (H := K) (z := z) (p := x.take (n + 1)) (by rw [List.length_take]; omega)
    have e1 : (((n + 1 : Nat) : Int) - 1) = ((n : Nat) : Int) := by omega
    have g0 : ((0 : Int) < ((n + 1 : Nat) : Int)) = True := eq_true (by omega)
    rw [uuo h] at hfu
    rw [u6t, opF]
    by_cases h4 : n + 1 < 4
    · have h4' : (((n + 1 : Nat) : Int) < 4) = True := eq_true (by omega)
      cases hf : fullN (n + 1) (bN x 0) (bN x 1) (bN x 2) with
      | false =>
        rw [hf] at hfu
        rw [if_pos ⟨h4, rfl⟩]
        simp +contextual -dsimp (disch := omega) only [↓goDown, goUp, cr, simprocAttr, g0, h4', hs, hfu, un_not]
      | true =>
        rw [hf] at hfu
        rw [if_neg (fun g => by cases g.2)]
        simp +contextual -dsimp (disch := omega) only [↓goDown, goUp, cr, simprocAttr, g0, h4', hs, hfu, un_not, e1, ih]
    · have h4' : (((n + 1 : Nat) : Int) < 4) = False := eq_false (by omega)
      rw [if_neg (fun g => h4 g.1)]
      simp +contextual -dsimp (disch := omega) only [↓goDown, goUp, cr, simprocAttr, g0, h4', e1, ih]
theorem v00q {x : List UInt8} (hx : x.length < 2 ^ 60) : run (C u6n [BS z x]) H = some (.ok (.int .i64 (opF (bN x 0) (bN x 1) (bN x 2) x.length : Nat)) H) := by
  have h := ul9 (H := H) (z := z) (v2 := .int .i64 0) hx x.length (Nat.le_refl _)
  rw [uff]
  simp +contextual -dsimp (disch := omega) only [↓goDown, goUp, cr, simprocAttr, List.length_map, h]
def badAt (b : List UInt8) : Nat → Nat → Option Nat
  | 0, _ => none
  | f + 1, a => if a < b.length then (if letL (b.drop a) = 0 then some (a + opF (bN b a) (bN b (a + 1)) (bN b (a + 2)) (min 4 (b.length - a))) else badAt b f (a + letL (b.drop a))) else none
def utfR (o : Option Nat) : PV := match o with | none => .tup [.int .i64 0, .bool true] | some a => .tup [.int .i64 a, .bool false]
theorem uvl {b : List UInt8} {a i : Nat} : bN (b.drop a) i = bN b (a + i) := by
  unfold bN
  rw [List.getD_eq_getElem?_getD, List.getD_eq_getElem?_getD, List.getElem?_drop]
theorem u14 {b : List UInt8} : (ByteArray.mk ⟨b⟩).size = b.length := rfl
end Go.Proofs.YthnmienjiangkaaGreatDoor.Pi.Q
namespace Go.Proofs.YthnmienjiangkaaGreatDoor.Pi.Q
open Go Go.Proofs.YthnmienjiangkaaGreatDoor.Pi
theorem ug4 : ∀ u : List UInt8, u8b (bytes u) = some u
  | [] => rfl
  | c :: r => by
    have ih := ug4 r
    have e : u8b (bytes (c :: r)) = (u8b (bytes r)).map (UInt8.ofNat ((c.toNat : Int)).toNat :: ·) := rfl
    rw [e, ih]
    simp
theorem get_bN {b : List UInt8} {i : Nat} : ((ByteArray.mk ⟨b⟩).get! i).toNat = bN b i := by
  unfold bN ByteArray.get!
  congr 1
  simp [List.getD_eq_getElem?_getD, getElem!_def]
  cases b[i]? <;> rfl
theorem uvk {b : List UInt8} {a : Nat} (ha : a < b.length) (h : letL (b.drop a) ≠ 0) : (Utf8.decode (ByteArray.mk ⟨b⟩) a).2 = letL (b.drop a) := by
  rw [Lib.decode_at]
  simp only [get_bN]
  unfold letL at h ⊢
  simp only [uvl, List.length_drop, Nat.add_zero] at h ⊢
  exact ux6 (n := b.length - a) (by omega) bN_lt bN_lt bN_lt bN_lt h
theorem bN_cut {b : List UInt8} {a i : Nat} (hi : i ≤ 2) : bN ((b.take (min b.length (a + 4))).drop a) i = bN b (a + i) := by
  rw [uvl]
  by_cases h : a + i < b.length
  · exact uk0 (by omega)
  · unfold bN
    rw [List.getD_eq_getElem?_getD, List.getD_eq_getElem?_getD, List.getElem?_eq_none (by rw [List.length_take]; omega), List.getElem?_eq_none (by omega)]
attribute [local congr] ite_congr
variable {H : Heap} {z : Bool}
theorem cv_BS {o : Bool} {u : List UInt8} : run (cv .bytesToStr o (BS z u)) H = some (.ok (.str ⟨⟨u⟩⟩) H) := by
  unfold run cv
  simp only [ug4]
  rfl
theorem run_rg {s : ByteArray} : run (rg (.str s)) H = some (.ok (.ptr H.length 0) (hadd H [.iter s 0])) := nrfl rfl
def nxR (n : Nat) (K : Heap) : Option Box → Option (Out PV)
  | some (.iter s pos) => bif decide (pos < s.size) then some (.ok (.tup [.bool true, .int .i64 pos, .int .i32 (Utf8.decode s pos).1]) (K.set n (.iter s (pos + (Utf8.decode s pos).2)))) else some (.ok (.tup [.bool false]) K)
  | _ => none
theorem nx_is {n : Nat} {K : Heap} : nx (.ptr n 0) K = nxR n K K[n]? := by
  unfold nxR
  rfl
theorem v00j {n : Nat} {K : Heap} {s : ByteArray} {pos : Nat} (h : K[n]? = some (.iter s pos)) : nx (.ptr n 0) K = if pos < s.size then some (.ok (.tup [.bool true, .int .i64 pos, .int .i32 (Utf8.decode s pos).1]) (K.set n (.iter s (pos + (Utf8.decode s pos).2)))) else some (.ok (.tup [.bool false]) K) := by
  rw [nx_is, h]
  unfold nxR
  by_cases hp : pos < s.size
  · rw [if_pos hp]; simp only [decide_eq_true hp, cond_true]
  · rw [if_neg hp]; simp only [decide_eq_false hp, cond_false]
theorem run_nx {s : ByteArray} {a : Nat} : run (nx (.ptr (List.length H) 0)) (hadd H [.iter s a]) = if a < s.size then some (.ok (.tup [.bool true, .int .i64 a, .int .i32 (Utf8.decode s a).1]) (hadd H [.iter s (a + (Utf8.decode s a).2)])) else some (.ok (.tup [.bool false]) (hadd H [.iter s a])) := by
  have hg : (hadd H [.iter s a])[List.length H]? = some (.iter s a) := by unfold hadd; simp
  have hs : ∀ y, List.set (hadd H [.iter s a]) (List.length H) y = hadd H [y] := fun y => by unfold hadd; simp
  unfold run
  rw [v00j hg, hs]
theorem v00b {k : IntKind} {a b : Int} : run (mn (.int k a) (.int k b)) H = some (.ok (.int k (if b < a then b else a)) H) := by
  unfold run mn
  simp only [decide_true, cond_true]
  rfl
theorem uqw {b : List UInt8} {v2 v3 : PV} (hb : b.length < 2 ^ 60) : ∀ (f a : Nat), b.length - a < f → a ≤ b.length →
    ∃ q, run (u5n (BS z b) v2 v3 (.ptr (List.length H) 0)) (hadd H [.iter (ByteArray.mk ⟨b⟩) a]) = some (.ok (utfR (badAt b f a)) (hadd H [.iter (ByteArray.mk ⟨b⟩) q]))
  | 0, a, h, ha => by omega
  | f + 1, a, h, ha => by
    have hnx := run_nx (H := H) (s := ByteArray.mk ⟨b⟩) (a := a)
    rw [show (ByteArray.mk ⟨b⟩).size = b.length from rfl] at hnx
    rw [badAt]
    by_cases hl : a < b.length
    · rw [if_pos hl] at hnx ⊢
      have hs := fun K => sl_lo (H := K) (z := z) (Nat.le_of_lt hl)
      obtain ⟨r, r0, r1, hd⟩ := dec_is (z := z) (p := b.drop a) (by rw [List.length_drop]; omega) (by rw [List.length_drop]; omega)
      by_cases h0 : letL (b.drop a) = 0
      · rw [if_pos h0]
        rw [h0] at hd
        have hr := r0 h0
        subst hr
        have e4 : ((a : Int) + 4) = ((a + 4 : Nat) : Int) := rfl
        have w4 : IntKind.i64.wrap ((a + 4 : Nat) : Int) = ((a + 4 : Nat) : Int) := w_i64 (by omega)
        have em : (if ((a + 4 : Nat) : Int) < (b.length : Int) then ((a + 4 : Nat) : Int) else (b.length : Int)) = ((min b.length (a + 4) : Nat) : Int) := by
          split <;> omega
        have hs2 := fun K => uux (H := K) (z := z) (x := b) (n := a) (m := min b.length (a + 4)) (by omega) (by omega)
        have ho := fun K => v00q (H := K) (z := z) (x := (b.take (min b.length (a + 4))).drop a) (by rw [List.length_drop, List.length_take]; omega)
        have el : ((b.take (min b.length (a + 4))).drop a).length = min 4 (b.length - a) := by rw [List.length_drop, List.length_take]; omega
        rw [bN_cut (by omega), bN_cut (by omega), bN_cut (by omega), el, Nat.add_zero] at ho
        have hol : opF (bN b a) (bN b (a + 1)) (bN b (a + 2)) (min 4 (b.length - a)) ≤ 4 := by
          have : ∀ n, opF (bN b a) (bN b (a + 1)) (bN b (a + 2)) n ≤ n := fun n => by
            induction n with
            | zero => exact Nat.le_refl _
            | succ n ih => rw [opF]; split <;> omega
          have := this (min 4 (b.length - a))
          omega
        generalize opF (bN b a) (bN b (a + 1)) (bN b (a + 2)) (min 4 (b.length - a)) = o at *
        have ea : ((a : Int) + (o : Int)) = ((a + o : Nat) : Int) := rfl
        have wa : IntKind.i64.wrap ((a + o : Nat) : Int) = ((a + o : Nat) : Int) := w_i64 (by omega)
        refine ⟨a + (Utf8.decode (ByteArray.mk ⟨b⟩) a).2, ?_⟩
        rw [u5u]
        simp +contextual -dsimp (disch := omega) only [↓goDown, goUp, cr, simprocAttr, hnx, hs, hd, List.length_map, e4, w4, v00b, em, hs2, ho, ea, wa, utfR, show ((max 1 0 : Nat) : Int) = 1 from rfl]
      · rw [if_neg h0]
        have hw := uvk hl h0
        rw [hw] at hnx
        have hle := ujb hl
        obtain ⟨q, ih⟩ := uqw hb (v2 := v2) (v3 := v3) f (a + letL (b.drop a)) (by omega) hle
        have hm : max 1 (letL (b.drop a)) = letL (b.drop a) := by omega
        rw [hm] at hd
        refine ⟨q, ?_⟩
        rw [u5u]
        by_cases hr : r = 65533
        · have hr' : (r = 65533) = True := eq_true hr
          have h1 : ¬ letL (b.drop a) = 1 := fun g => r1 g hr
          have g1 : (((letL (b.drop a) : Nat) : Int) ≤ 1) = False := eq_false (by omega)
          simp +contextual -dsimp (disch := omega) only [↓goDown, goUp, cr, simprocAttr, hnx, hs, hd, List.length_map, hr', g1, ih]
        · have hr' : (r = 65533) = False := eq_false hr
          simp +contextual -dsimp (disch := omega) only [↓goDown, goUp, cr, simprocAttr, hnx, hs, hd, List.length_map, hr', ih]
    · rw [if_neg hl] at hnx ⊢
      refine ⟨a, ?_⟩
      rw [u5u]
      simp +contextual -dsimp (disch := omega) only [↓goDown, goUp, cr, simprocAttr, hnx, utfR]
theorem uzr {o : Option Nat} {n : Nat} : (utfR o).low n = true := by cases o <;> simp [utfR, ugu, u6u, u5b, u7o, ubq]
def utfN (b : List UInt8) : Option Nat := badAt b (b.length + 1) 0
theorem v019 {b : List UInt8} (hb : b.length < 2 ^ 60) : run (C u90 [BS z b]) H = some (.ok (utfR (utfN b)) H) := by
  have hc := fun K o => cv_BS (H := K) (z := z) (o := o) (u := b)
  obtain ⟨q, h⟩ := uqw (H := H) (z := z) (v2 := .int .i64 0) (v3 := .bool false) hb (b.length + 1) 0 (by omega) (by omega)
  rw [uk3]
  simp +contextual -dsimp (disch := omega) only [↓goDown, goUp, cr, simprocAttr, hc, run_rg, h, utfN, uzr]
end Go.Proofs.YthnmienjiangkaaGreatDoor.Pi.Q
namespace Go.Proofs.YthnmienjiangkaaGreatDoor.Pi.Q
open Go Go.Proofs.YthnmienjiangkaaGreatDoor.Pi
attribute [local congr] ite_congr
variable {H : Heap} {z : Bool}
abbrev SB (u : List UInt8) : PV := .str ⟨⟨u⟩⟩
theorem ixS_is {u : List UInt8} {i : Nat} {k : IntKind} (h : i < u.length) : run (ixS (SB u) (.int k i)) H = some (.ok (.int .u8 (bN u i : Nat)) H) := by
  unfold run ixS
  have h0 : decide ((0 : Int) ≤ (i : Int)) = true := decide_eq_true (by omega)
  simp only [h0, cond_true, Int.toNat_natCast]
  rw [show u[i]? = some u[i] from List.getElem?_eq_getElem h]
  unfold bN
  simp [List.getD_eq_getElem?_getD, List.getElem?_eq_getElem h, M.pure]
theorem slS_is {u : List UInt8} {n : Nat} {k : IntKind} (h : n ≤ u.length) : run (slS (SB u) (some (.int k n)) none) H = some (.ok (SB (u.drop n)) H) := by
  unfold run slS bnd
  have h0 : decide ((0 : Int) ≤ (n : Int)) = true := decide_eq_true (by omega)
  have h1 : decide (n ≤ (ByteArray.mk ⟨u⟩).size) = true := decide_eq_true h
  simp only [h0, cond_true, Int.toNat_natCast, h1, Nat.le_refl, decide_true, Bool.and_self, M.pure]
  have e : (ByteArray.mk ⟨u⟩).extract n (ByteArray.mk ⟨u⟩).size = ByteArray.mk ⟨u.drop n⟩ := by
    have := Lib.ext_list (ByteArray.mk ⟨u⟩) n
    generalize (ByteArray.mk ⟨u⟩).extract n (ByteArray.mk ⟨u⟩).size = B at *
    obtain ⟨⟨B⟩⟩ := B
    exact congrArg (fun l => ByteArray.mk ⟨l⟩) this
  rw [e]
theorem lnS_is {u : List UInt8} : run (lnS (SB u)) H = some (.ok (.int .i64 u.length) H) := nrfl rfl
theorem le8 {u : List UInt8} (h : 8 ≤ u.length) : Lib.leNat (u.take 8) = bN u 0 + bN u 1 * 2 ^ 8 + bN u 2 * 2 ^ 16 + bN u 3 * 2 ^ 24 + bN u 4 * 2 ^ 32 + bN u 5 * 2 ^ 40 + bN u 6 * 2 ^ 48 + bN u 7 * 2 ^ 56 := by
  match u, h with
  | a0 :: a1 :: a2 :: a3 :: a4 :: a5 :: a6 :: a7 :: r, _ =>
    simp only [List.take, Lib.leNat, bN, List.getD_cons_zero, List.getD_cons_succ]
    omega
theorem jn {n x s : Nat} (hs : s ≤ 56) (hn : n < 2 ^ s) (hx : x < 256) : bi .or .none (.int .u64 n) (.int .u64 (IntKind.u64.wrap ((x : Int) * 2 ^ shiftN .u64 (s : Int)))) = M.pure (.int .u64 ((n + x * 2 ^ s : Nat) : Int)) := by
  have hp : 2 ^ s ≤ 2 ^ 56 := Nat.pow_le_pow_right (by omega) hs
  have h2 : x * 2 ^ s ≤ 255 * 2 ^ 56 := Nat.mul_le_mul (by omega) hp
  rw [run_or, (uks (by omega) hn (by omega)).1]
theorem ud3 {u : List UInt8} (h : 8 ≤ u.length) : run (C u0g [SB u]) H = some (.ok (.int .u64 (Lib.leNat (u.take 8) : Nat)) H) := by
  rw [le8 h, u8a]
  have i0 := fun K => ixS_is (H := K) (u := u) (i := 0) (k := .i64) (by omega)
  have l0 : bN u 0 < 256 := bN_lt
  have w0 : IntKind.u64.wrap ((bN u 0 : Nat) : Int) = ((bN u 0 : Nat) : Int) := w_u64 (by omega)
  have i1 := fun K => ixS_is (H := K) (u := u) (i := 1) (k := .i64) (by omega)
  have l1 : bN u 1 < 256 := bN_lt
  have w1 : IntKind.u64.wrap ((bN u 1 : Nat) : Int) = ((bN u 1 : Nat) : Int) := w_u64 (by omega)
  have i2 := fun K => ixS_is (H := K) (u := u) (i := 2) (k := .i64) (by omega)
  have l2 : bN u 2 < 256 := bN_lt
  have w2 : IntKind.u64.wrap ((bN u 2 : Nat) : Int) = ((bN u 2 : Nat) : Int) := w_u64 (by omega)
  have i3 := fun K => ixS_is (H := K) (u := u) (i := 3) (k := .i64) (by omega)
  have l3 : bN u 3 < 256 := bN_lt
  have w3 : IntKind.u64.wrap ((bN u 3 : Nat) : Int) = ((bN u 3 : Nat) : Int) := w_u64 (by omega)
  have i4 := fun K => ixS_is (H := K) (u := u) (i := 4) (k := .i64) (by omega)
  have l4 : bN u 4 < 256 := bN_lt
  have w4 : IntKind.u64.wrap ((bN u 4 : Nat) : Int) = ((bN u 4 : Nat) : Int) := w_u64 (by omega)
  have i5 := fun K => ixS_is (H := K) (u := u) (i := 5) (k := .i64) (by omega)
  have l5 : bN u 5 < 256 := bN_lt
  have w5 : IntKind.u64.wrap ((bN u 5 : Nat) : Int) = ((bN u 5 : Nat) : Int) := w_u64 (by omega)
  have i6 := fun K => ixS_is (H := K) (u := u) (i := 6) (k := .i64) (by omega)
  have l6 : bN u 6 < 256 := bN_lt
  have w6 : IntKind.u64.wrap ((bN u 6 : Nat) : Int) = ((bN u 6 : Nat) : Int) := w_u64 (by omega)
  have i7 := fun K => ixS_is (H := K) (u := u) (i := 7) (k := .i64) (by omega)
  have l7 : bN u 7 < 256 := bN_lt
  have w7 : IntKind.u64.wrap ((bN u 7 : Nat) : Int) = ((bN u 7 : Nat) : Int) := w_u64 (by omega)
  simp only [show ((0 : Nat) : Int) = 0 from rfl, show ((1 : Nat) : Int) = 1 from rfl, show ((2 : Nat) : Int) = 2 from rfl, show ((3 : Nat) : Int) = 3 from rfl, show ((4 : Nat) : Int) = 4 from rfl, show ((5 : Nat) : Int) = 5 from rfl, show ((6 : Nat) : Int) = 6 from rfl, show ((7 : Nat) : Int) = 7 from rfl] at i0 i1 i2 i3 i4 i5 i6 i7
  generalize bN u 0 = c0 at *
  generalize bN u 1 = c1 at *
  generalize bN u 2 = c2 at *
  generalize bN u 3 = c3 at *
  generalize bN u 4 = c4 at *
  generalize bN u 5 = c5 at *
  generalize bN u 6 = c6 at *
  generalize bN u 7 = c7 at *
  have j1 : bi .or .none (.int .u64 ((c0 : Nat) : Int)) (.int .u64 (IntKind.u64.wrap ((c1 : Int) * 2 ^ shiftN .u64 8))) = _ := jn (n := c0) (x := c1) (s := 8) (by decide) (by omega) l1
  have j2 : bi .or .none (.int .u64 ((c0 + c1 * 2 ^ 8 : Nat) : Int)) (.int .u64 (IntKind.u64.wrap ((c2 : Int) * 2 ^ shiftN .u64 16))) = _ := jn (n := c0 + c1 * 2 ^ 8) (x := c2) (s := 16) (by decide) (by omega) l2
  have j3 : bi .or .none (.int .u64 ((c0 + c1 * 2 ^ 8 + c2 * 2 ^ 16 : Nat) : Int)) (.int .u64 (IntKind.u64.wrap ((c3 : Int) * 2 ^ shiftN .u64 24))) = _ := jn (n := c0 + c1 * 2 ^ 8 + c2 * 2 ^ 16) (x := c3) (s := 24) (by decide) (by omega) l3
  have j4 : bi .or .none (.int .u64 ((c0 + c1 * 2 ^ 8 + c2 * 2 ^ 16 + c3 * 2 ^ 24 : Nat) : Int)) (.int .u64 (IntKind.u64.wrap ((c4 : Int) * 2 ^ shiftN .u64 32))) = _ := jn (n := c0 + c1 * 2 ^ 8 + c2 * 2 ^ 16 + c3 * 2 ^ 24) (x := c4) (s := 32) (by decide) (by omega) l4
  have j5 : bi .or .none (.int .u64 ((c0 + c1 * 2 ^ 8 + c2 * 2 ^ 16 + c3 * 2 ^ 24 + c4 * 2 ^ 32 : Nat) : Int)) (.int .u64 (IntKind.u64.wrap ((c5 : Int) * 2 ^ shiftN .u64 40))) = _ := jn (n := c0 + c1 * 2 ^ 8 + c2 * 2 ^ 16 + c3 * 2 ^ 24 + c4 * 2 ^ 32) (x := c5) (s := 40) (by decide) (by omega) l5
  have j6 : bi .or .none (.int .u64 ((c0 + c1 * 2 ^ 8 + c2 * 2 ^ 16 + c3 * 2 ^ 24 + c4 * 2 ^ 32 + c5 * 2 ^ 40 : Nat) : Int)) (.int .u64 (IntKind.u64.wrap ((c6 : Int) * 2 ^ shiftN .u64 48))) = _ := jn (n := c0 + c1 * 2 ^ 8 + c2 * 2 ^ 16 + c3 * 2 ^ 24 + c4 * 2 ^ 32 + c5 * 2 ^ 40) (x := c6) (s := 48) (by decide) (by omega) l6
  have j7 : bi .or .none (.int .u64 ((c0 + c1 * 2 ^ 8 + c2 * 2 ^ 16 + c3 * 2 ^ 24 + c4 * 2 ^ 32 + c5 * 2 ^ 40 + c6 * 2 ^ 48 : Nat) : Int)) (.int .u64 (IntKind.u64.wrap ((c7 : Int) * 2 ^ shiftN .u64 56))) = _ := jn (n := c0 + c1 * 2 ^ 8 + c2 * 2 ^ 16 + c3 * 2 ^ 24 + c4 * 2 ^ 32 + c5 * 2 ^ 40 + c6 * 2 ^ 48) (x := c7) (s := 56) (by decide) (by omega) l7
  simp +contextual -dsimp (disch := omega) only [↓goDown, goUp, cr, simprocAttr, i0, w0, i1, w1, i2, w2, i3, w3, i4, w4, i5, w5, i6, w6, i7, w7, uap, j1, j2, j3, j4, j5, j6, j7]
theorem ukv {x : Nat} (h : x < 2 ^ 64) : bi .and .none (.int .u64 (x : Int)) (.int .u64 9259542123273814144) = M.pure (.int .u64 ((x &&& 9259542123273814144 : Nat) : Int)) := by
  rw [ua0, show IntKind.u64.bits = 64 from rfl]
  have e : (BitVec.ofInt 64 (x : Int) &&& BitVec.ofInt 64 9259542123273814144).toNat = x &&& 9259542123273814144 := bv_and (w := 64) (a := x) (b := 9259542123273814144) h (by decide)
  have l : x &&& 9259542123273814144 ≤ x := Nat.and_le_left
  rw [e, w_u64 (by omega)]
theorem or_and {x y : Nat} (hx : x < 2 ^ 64) (hy : y < 2 ^ 64) : bi .or .none (.int .u64 (x : Int)) (.int .u64 (y : Int)) = M.pure (.int .u64 ((x ||| y : Nat) : Int)) := by
  rw [run_or, show IntKind.u64.bits = 64 from rfl, bv_or (w := 64) hx hy]
  have := Nat.or_lt_two_pow hx hy
  rw [w_u64 (by omega)]
theorem le8_lt {u : List UInt8} : Lib.leNat (u.take 8) < 2 ^ 64 := by
  have := Lib.leNat_lt (u.take 8)
  have h : (u.take 8).length ≤ 8 := by rw [List.length_take]; omega
  exact Nat.lt_of_lt_of_le this (Nat.le_trans (Nat.pow_le_pow_right (by decide) h) (by decide))
theorem u9x {u : List UInt8} (h : 8 ≤ u.length) (hm : Lib.leNat (u.take 8) &&& 9259542123273814144 = 0) : Lib.validD u = Lib.validD (u.drop 8) := by
  have hl : (u.take 8).length = 8 := by rw [List.length_take]; omega
  have := (Lib.leNat_mask (u.take 8)).mp (by rw [hl, Lib.maskN8]; exact hm)
  exact Lib.validD_ascii 8 u this
def VOk (v2 : PV) (n : Nat) : Prop := ∀ (u : List UInt8) (H : Heap), u.length ≤ n → u.length < 2 ^ 60 → ∃ E, run (u06 (SB u) v2) H = some (.ok (.bool (Lib.validD u)) (hadd H E))
theorem fast32 {v2 v3 : PV} {n : Nat} (hm : VOk v2 n) : ∀ (f : Nat) (u : List UInt8) (H : Heap), u.length ≤ f → u.length ≤ n → u.length < 2 ^ 60 →
    ∃ E, run (u0k (SB u) v2 v3) H = some (.ok (.bool (Lib.validD u)) (hadd H E))
  | f, u, H, hf, hn, hu => by
    rw [u3i]
    have hl := fun K => lnS_is (H := K) (u := u)
    obtain ⟨E, he⟩ := hm u H hn hu
    by_cases h : 32 < u.length
    · have h' : ((32 : Int) < (u.length : Int)) = True := eq_true (by omega)
      have a1 := fun K => ud3 (H := K) (u := u) (by omega)
      have a2 := fun K => ud3 (H := K) (u := u.drop 8) (by rw [List.length_drop]; omega)
      have a3 := fun K => ud3 (H := K) (u := u.drop 16) (by rw [List.length_drop]; omega)
      have a4 := fun K => ud3 (H := K) (u := u.drop 24) (by rw [List.length_drop]; omega)
      have d8 := fun K => slS_is (H := K) (u := u) (n := 8) (k := .i64) (by omega)
      have d16 := fun K => slS_is (H := K) (u := u) (n := 16) (k := .i64) (by omega)
      have d24 := fun K => slS_is (H := K) (u := u) (n := 24) (k := .i64) (by omega)
      have d32 := fun K => slS_is (H := K) (u := u) (n := 32) (k := .i64) (by omega)
      simp only [show ((8 : Nat) : Int) = 8 from rfl, show ((16 : Nat) : Int) = 16 from rfl, show ((24 : Nat) : Int) = 24 from rfl, show ((32 : Nat) : Int) = 32 from rfl] at d8 d16 d24 d32
      have l1 := le8_lt (u := u)
      have l2 := le8_lt (u := u.drop 8)
      have l3 := le8_lt (u := u.drop 16)
      have l4 := le8_lt (u := u.drop 24)
      have o1 := or_and l1 l2
      have o2 := or_and l3 l4
      have o3 := or_and (Nat.or_lt_two_pow l1 l2) (Nat.or_lt_two_pow l3 l4)
      have ma := ukv (Nat.or_lt_two_pow (Nat.or_lt_two_pow l1 l2) (Nat.or_lt_two_pow l3 l4))
      by_cases g : ((Lib.leNat (u.take 8) ||| Lib.leNat ((u.drop 8).take 8)) ||| (Lib.leNat ((u.drop 16).take 8) ||| Lib.leNat ((u.drop 24).take 8))) &&& 9259542123273814144 = 0
      · skip
        have g' := g
        rw [Lib.or_mask, Lib.or_mask, Lib.or_mask] at g
        obtain ⟨⟨g1, g2⟩, g3, g4⟩ := g
        have e : Lib.validD u = Lib.validD (u.drop 32) := by
          rw [u9x (by omega) g1, u9x (by rw [List.length_drop]; omega) g2, List.drop_drop, u9x (by rw [List.length_drop]; omega) g3, List.drop_drop, u9x (by rw [List.length_drop]; omega) g4, List.drop_drop]
        obtain ⟨f, rfl⟩ : ∃ k, f = k + 1 := ⟨f - 1, by omega⟩
        obtain ⟨E, ih⟩ := fast32 hm (v3 := v3) f (u.drop 32) H (by rw [List.length_drop]; omega) (by rw [List.length_drop]; omega) (by rw [List.length_drop]; omega)
        refine ⟨E, ?_⟩
        rw [e]
        rw [g'] at ma
        simp +contextual -dsimp (disch := omega) only [↓goDown, goUp, cr, simprocAttr, u14, h', a1, a2, a3, a4, d8, d16, d24, d32, o1, o2, o3, ma, ih]
      · refine ⟨E, ?_⟩
        have g' : (((((Lib.leNat (u.take 8) ||| Lib.leNat ((u.drop 8).take 8)) ||| (Lib.leNat ((u.drop 16).take 8) ||| Lib.leNat ((u.drop 24).take 8))) &&& 9259542123273814144 : Nat) : Int) = 0) = False := eq_false (by omega)
        simp +contextual -dsimp (disch := omega) only [↓goDown, goUp, cr, simprocAttr, u14, h', a1, a2, a3, a4, d8, d16, d24, d32, o1, o2, o3, ma, g', u09, he]
    · have h' : ((32 : Int) < (u.length : Int)) = False := eq_false (by omega)
      refine ⟨E, ?_⟩
      simp +contextual -dsimp (disch := omega) only [↓goDown, goUp, cr, simprocAttr, u14, h', u09, he]
end Go.Proofs.YthnmienjiangkaaGreatDoor.Pi.Q
namespace Go.Proofs.YthnmienjiangkaaGreatDoor.Pi.Q
open Go Go.Proofs.YthnmienjiangkaaGreatDoor.Pi
attribute [local congr] ite_congr
variable {H : Heap} {z : Bool}
theorem uva {u : List UInt8} (h : u ≠ []) (h0 : bN u 0 < 128) : ∀ b ∈ u.take 1, b.toNat < 128 := by
  cases u with
  | nil => exact absurd rfl h
  | cons c r => intro b hb; simp at hb; subst hb; exact h0
theorem uiw {u : List UInt8} (h : u ≠ []) (h0 : 128 ≤ bN u 0) : Lib.validD u = if letL u = 0 then false else Lib.validD (u.drop (letL u)) := by
  have e := Lib.validD_lead u h h0
  have c := umw (n := u.length) (c0 := bN u 0) (c1 := bN u 1) (c2 := bN u 2) (c3 := bN u 3) h0
  unfold letL
  rw [c, e]
  unfold bN
  have d := Lib.check_decode u.length (bN u 0) (bN u 1) (bN u 2) (bN u 3) (List.length_pos_iff.2 h) h0 bN_lt bN_lt bN_lt bN_lt
  unfold bN at d
  rcases d with ⟨d, _⟩ | ⟨k, hk, d, _⟩
  · rw [d]; rfl
  · rw [d]; exact (if_neg (show ¬ k = 0 by omega)).symm
theorem uy0 {v2 v3 : PV} {n : Nat} (hm : VOk v2 n) {u : List UInt8} {H : Heap} (hn : u.length ≤ n + 1) (hu : u.length < 2 ^ 60) (h : u ≠ []) (h0 : bN u 0 < 128) :
    ∃ E, run (u06 (SB u) v2) H = some (.ok (.bool (Lib.validD u)) (hadd H E)) := by
  have hl : 0 < u.length := List.length_pos_iff.2 h
  have x0 := fun K => ixS_is (H := K) (u := u) (i := 0) (k := .i64) hl
  have x1 := fun K => slS_is (H := K) (u := u) (n := 1) (k := .i64) hl
  simp only [show ((0 : Nat) : Int) = 0 from rfl, show ((1 : Nat) : Int) = 1 from rfl] at x0 x1
  have c0 : ((0 : Int) < (u.length : Int)) = True := eq_true (by omega)
  have c1 : (((bN u 0 : Nat) : Int) < 128) = True := eq_true (by omega)
  rw [Lib.validD_ascii 1 u (uva h h0)]
  have hd : (u.drop 1).length = u.length - 1 := List.length_drop
  rw [u0u]
  generalize u.drop 1 = t at *
  obtain ⟨E1, e1⟩ := hm t H (by omega) (by omega)
  by_cases h8 : 8 < t.length
  · have h8' : ((8 : Int) < (t.length : Int)) = True := eq_true (by omega)
    have a1 := fun K => ud3 (H := K) (u := t) (by omega)
    have m1 := ukv (le8_lt (u := t))
    by_cases g1 : Lib.leNat (t.take 8) &&& 9259542123273814144 = 0
    · have x8 := fun K => slS_is (H := K) (u := t) (n := 8) (k := .i64) (by omega)
      simp only [show ((8 : Nat) : Int) = 8 from rfl] at x8
      rw [g1] at m1
      rw [u9x (by omega) g1]
      have hd8 : (t.drop 8).length = t.length - 8 := List.length_drop
      generalize t.drop 8 = s at *
      obtain ⟨E2, e2⟩ := hm s H (by omega) (by omega)
      by_cases h16 : 16 < s.length
      · have h16' : ((16 : Int) < (s.length : Int)) = True := eq_true (by omega)
        have a2 := fun K => ud3 (H := K) (u := s) (by omega)
        have a3 := fun K => ud3 (H := K) (u := s.drop 8) (by rw [List.length_drop]; omega)
        have y8 := fun K => slS_is (H := K) (u := s) (n := 8) (k := .i64) (by omega)
        have y16 := fun K => slS_is (H := K) (u := s) (n := 16) (k := .i64) (by omega)
        simp only [show ((8 : Nat) : Int) = 8 from rfl, show ((16 : Nat) : Int) = 16 from rfl] at y8 y16
        have o1 := or_and (le8_lt (u := s)) (le8_lt (u := s.drop 8))
        have m2 := ukv (Nat.or_lt_two_pow (le8_lt (u := s)) (le8_lt (u := s.drop 8)))
        by_cases g2 : (Lib.leNat (s.take 8) ||| Lib.leNat ((s.drop 8).take 8)) &&& 9259542123273814144 = 0
        · rw [g2] at m2
          rw [Lib.or_mask] at g2
          obtain ⟨E3, e3⟩ := fast32 hm (v3 := .int .u8 (bN u 0 : Nat)) (s.drop 16).length (s.drop 16) H (Nat.le_refl _) (by rw [List.length_drop]; omega) (by rw [List.length_drop]; omega)
          refine ⟨E3, ?_⟩
          rw [u9x (by omega) g2.1, u9x (by rw [List.length_drop]; omega) g2.2, List.drop_drop]
          simp +contextual -dsimp (disch := omega) only [↓goDown, goUp, cr, simprocAttr, u14, x0, x1, c0, c1, h8', a1, m1, x8, h16', a2, a3, y8, y16, o1, m2, e3]
        · have g2' : ((((Lib.leNat (s.take 8) ||| Lib.leNat ((s.drop 8).take 8)) &&& 9259542123273814144 : Nat) : Int) = 0) = False := eq_false (by omega)
          refine ⟨E2, ?_⟩
          simp +contextual -dsimp (disch := omega) only [↓goDown, goUp, cr, simprocAttr, u14, x0, x1, c0, c1, h8', a1, m1, x8, h16', a2, a3, y8, y16, o1, m2, g2', u09, e2]
      · have h16' : ((16 : Int) < (s.length : Int)) = False := eq_false (by omega)
        refine ⟨E2, ?_⟩
        simp +contextual -dsimp (disch := omega) only [↓goDown, goUp, cr, simprocAttr, u14, x0, x1, c0, c1, h8', a1, m1, x8, h16', u09, e2]
    · have g1' : (((Lib.leNat (t.take 8) &&& 9259542123273814144 : Nat) : Int) = 0) = False := eq_false (by omega)
      refine ⟨E1, ?_⟩
      simp +contextual -dsimp (disch := omega) only [↓goDown, goUp, cr, simprocAttr, u14, x0, x1, c0, c1, h8', a1, m1, g1', u09, e1]
  · have h8' : ((8 : Int) < (t.length : Int)) = False := eq_false (by omega)
    refine ⟨E1, ?_⟩
    simp +contextual -dsimp (disch := omega) only [↓goDown, goUp, cr, simprocAttr, u14, x0, x1, c0, c1, h8', u09, e1]
theorem uul {v2 : PV} {n : Nat} (hm : VOk v2 n) {u : List UInt8} {H : Heap} (hn : u.length ≤ n + 1) (hu : u.length < 2 ^ 60) (h : u ≠ []) (h0 : 128 ≤ bN u 0) :
    ∃ E, run (u06 (SB u) v2) H = some (.ok (.bool (Lib.validD u)) (hadd H E)) := by
  have hl : 0 < u.length := List.length_pos_iff.2 h
  have x0 := fun K => ixS_is (H := K) (u := u) (i := 0) (k := .i64) hl
  simp only [show ((0 : Nat) : Int) = 0 from rfl] at x0
  have c0 : ((0 : Int) < (u.length : Int)) = True := eq_true (by omega)
  have c1 : (((bN u 0 : Nat) : Int) < 128) = False := eq_false (by omega)
  rw [uiw h h0]
  unfold letL letN
  have hf := ug1 (bN u 0)
  have hia := fun K => ug7 (H := K) (c := bN u 0) bN_lt
  have hac := fun K => uoe (H := K) (i := Lib.firstT (bN u 0) / 16) (by omega)
  have w1 : IntKind.i64.wrap ((Lib.firstT (bN u 0) % 8 : Nat) : Int) = ((Lib.firstT (bN u 0) % 8 : Nat) : Int) := w_i64 (by omega)
  have s4 := up4 hf
  have a7 := uo5 (c := bN u 0)
  have r1 := fun (h : 1 < u.length) K => ixS_is (H := K) (u := u) (k := .i64) h
  have r2 := fun (h : 2 < u.length) K => ixS_is (H := K) (u := u) (k := .i64) h
  have r3 := fun (h : 3 < u.length) K => ixS_is (H := K) (u := u) (k := .i64) h
  simp only [show ((1 : Nat) : Int) = 1 from rfl, show ((2 : Nat) : Int) = 2 from rfl, show ((3 : Nat) : Int) = 3 from rfl] at r1 r2 r3
  have d2 := fun (h : 2 ≤ u.length) K => slS_is (H := K) (u := u) (n := 2) (k := .i64) h
  have d3 := fun (h : 3 ≤ u.length) K => slS_is (H := K) (u := u) (n := 3) (k := .i64) h
  have d4 := fun (h : 4 ≤ u.length) K => slS_is (H := K) (u := u) (n := 4) (k := .i64) h
  simp only [show ((4 : Nat) : Int) = 4 from rfl, show ((2 : Nat) : Int) = 2 from rfl, show ((3 : Nat) : Int) = 3 from rfl] at d2 d3 d4
  rw [if_neg (show ¬ bN u 0 < 128 by omega)]
  by_cases hx : 240 ≤ Lib.firstT (bN u 0)
  · have ex := uky h0 hx
    rw [ex] at hia hac s4 a7 w1
    simp only [show 241 % 8 = 1 from rfl, show 241 / 16 = 15 from rfl, show ((1 : Nat) : Int) = 1 from rfl, show ((15 : Nat) : Int) = 15 from rfl, show ((241 : Nat) : Int) = 241 from rfl] at hia hac s4 a7 w1
    rw [if_pos hx, if_pos rfl]
    refine ⟨[.cells [.int .u8 (Lib.accLo 15), .int .u8 (Lib.accHi 15)]], ?_⟩
    rw [u0u]
    simp +contextual -dsimp (disch := omega) only [↓goDown, goUp, cr, simprocAttr, u14, x0, c0, c1, hia, hac, s4, a7, w1]
  · have hm8 := udu h0 hx
    rw [if_neg hx]
    generalize Lib.firstT (bN u 0) = x at *
    have x16 : x / 16 < 16 := by omega
    rw [u0u]
    generalize bN u 1 = b1 at *
    generalize bN u 2 = b2 at *
    generalize bN u 3 = b3 at *
    have hcont : ∀ k, 1 ≤ k → ∃ E, run (u06 (SB (u.drop k)) v2) (hadd H [.cells [.int .u8 (Lib.accLo (x / 16)), .int .u8 (Lib.accHi (x / 16))]]) = some (.ok (.bool (Lib.validD (u.drop k))) (hadd (hadd H [.cells [.int .u8 (Lib.accLo (x / 16)), .int .u8 (Lib.accHi (x / 16))]]) E)) :=
      fun k hk => hm (u.drop k) _ (by rw [List.length_drop]; omega) (by rw [List.length_drop]; omega)
    generalize Lib.accLo (x / 16) = lo at *
    generalize Lib.accHi (x / 16) = hi at *
    rcases hm8 with hs | hs | hs
    · rw [hs] at a7 w1 ⊢
      simp only [show ((2 : Nat) : Int) = 2 from rfl] at a7 w1
      by_cases q0 : u.length < 2
      · have t0 : ((u.length : Int) < 2) = True := eq_true (by omega)
        rw [if_pos q0, if_pos rfl]
        exact ⟨[.cells [.int .u8 lo, .int .u8 hi]], by simp +contextual -dsimp (disch := omega) only [↓goDown, goUp, cr, simprocAttr, u14, x0, c0, c1, hia, hac, s4, a7, w1, t0]⟩
      · have t0 : ((u.length : Int) < 2) = False := eq_false (by omega)
        have r1 := r1 (by omega)
        have dd := d2 (by omega)
        rw [if_neg q0]
        by_cases l1 : b1 < lo
        · have tl1 : ((b1 : Int) < (lo : Int)) = True := eq_true (by omega)
          rw [if_pos (show b1 < lo ∨ hi < b1 from .inl l1), if_pos rfl]
          exact ⟨[.cells [.int .u8 lo, .int .u8 hi]], by simp +contextual -dsimp (disch := omega) only [↓goDown, goUp, cr, simprocAttr, u14, x0, c0, c1, hia, hac, s4, a7, w1, t0, r1, dd, tl1]⟩
        · have tl1 : ((b1 : Int) < (lo : Int)) = False := eq_false (by omega)
          by_cases u1 : hi < b1
          · have tu1 : ((hi : Int) < (b1 : Int)) = True := eq_true (by omega)
            rw [if_pos (show b1 < lo ∨ hi < b1 from .inr u1), if_pos rfl]
            exact ⟨[.cells [.int .u8 lo, .int .u8 hi]], by simp +contextual -dsimp (disch := omega) only [↓goDown, goUp, cr, simprocAttr, u14, x0, c0, c1, hia, hac, s4, a7, w1, t0, r1, dd, tl1, tu1]⟩
          · have tu1 : ((hi : Int) < (b1 : Int)) = False := eq_false (by omega)
            rw [if_neg (show ¬ (b1 < lo ∨ hi < b1) by omega)]
            rw [if_pos (show 2 ≤ 2 by decide)]
            rw [if_neg (show ¬ 2 = 0 by decide)]
            obtain ⟨E, ih⟩ := hcont 2 (by decide)
            refine ⟨[.cells [.int .u8 lo, .int .u8 hi]] ++ E, ?_⟩
            rw [← u9t]
            simp +contextual -dsimp (disch := omega) only [↓goDown, goUp, cr, simprocAttr, u14, x0, c0, c1, hia, hac, s4, a7, w1, t0, r1, dd, tl1, tu1, ih]
    · rw [hs] at a7 w1 ⊢
      simp only [show ((3 : Nat) : Int) = 3 from rfl] at a7 w1
      by_cases q0 : u.length < 3
      · have t0 : ((u.length : Int) < 3) = True := eq_true (by omega)
        rw [if_pos q0, if_pos rfl]
        exact ⟨[.cells [.int .u8 lo, .int .u8 hi]], by simp +contextual -dsimp (disch := omega) only [↓goDown, goUp, cr, simprocAttr, u14, x0, c0, c1, hia, hac, s4, a7, w1, t0]⟩
      · have t0 : ((u.length : Int) < 3) = False := eq_false (by omega)
        have r1 := r1 (by omega)
        have r2 := r2 (by omega)
        have dd := d3 (by omega)
        rw [if_neg q0]
        by_cases l1 : b1 < lo
        · have tl1 : ((b1 : Int) < (lo : Int)) = True := eq_true (by omega)
          rw [if_pos (show b1 < lo ∨ hi < b1 from .inl l1), if_pos rfl]
          exact ⟨[.cells [.int .u8 lo, .int .u8 hi]], by simp +contextual -dsimp (disch := omega) only [↓goDown, goUp, cr, simprocAttr, u14, x0, c0, c1, hia, hac, s4, a7, w1, t0, r1, r2, dd, tl1]⟩
        · have tl1 : ((b1 : Int) < (lo : Int)) = False := eq_false (by omega)
          by_cases u1 : hi < b1
          · have tu1 : ((hi : Int) < (b1 : Int)) = True := eq_true (by omega)
            rw [if_pos (show b1 < lo ∨ hi < b1 from .inr u1), if_pos rfl]
            exact ⟨[.cells [.int .u8 lo, .int .u8 hi]], by simp +contextual -dsimp (disch := omega) only [↓goDown, goUp, cr, simprocAttr, u14, x0, c0, c1, hia, hac, s4, a7, w1, t0, r1, r2, dd, tl1, tu1]⟩
          · have tu1 : ((hi : Int) < (b1 : Int)) = False := eq_false (by omega)
            rw [if_neg (show ¬ (b1 < lo ∨ hi < b1) by omega)]
            rw [if_neg (show ¬ 3 ≤ 2 by decide)]
            by_cases l2 : b2 < 128
            · have tl2 : ((b2 : Int) < (128 : Int)) = True := eq_true (by omega)
              rw [if_pos (show b2 < 128 ∨ 191 < b2 from .inl l2), if_pos rfl]
              exact ⟨[.cells [.int .u8 lo, .int .u8 hi]], by simp +contextual -dsimp (disch := omega) only [↓goDown, goUp, cr, simprocAttr, u14, x0, c0, c1, hia, hac, s4, a7, w1, t0, r1, r2, dd, tl1, tu1, tl2]⟩
            · have tl2 : ((b2 : Int) < (128 : Int)) = False := eq_false (by omega)
              by_cases u2 : 191 < b2
              · have tu2 : ((191 : Int) < (b2 : Int)) = True := eq_true (by omega)
                rw [if_pos (show b2 < 128 ∨ 191 < b2 from .inr u2), if_pos rfl]
                exact ⟨[.cells [.int .u8 lo, .int .u8 hi]], by simp +contextual -dsimp (disch := omega) only [↓goDown, goUp, cr, simprocAttr, u14, x0, c0, c1, hia, hac, s4, a7, w1, t0, r1, r2, dd, tl1, tu1, tl2, tu2]⟩
              · have tu2 : ((191 : Int) < (b2 : Int)) = False := eq_false (by omega)
                rw [if_neg (show ¬ (b2 < 128 ∨ 191 < b2) by omega)]
                rw [if_pos (show 3 ≤ 3 by decide)]
                rw [if_neg (show ¬ 3 = 0 by decide)]
                obtain ⟨E, ih⟩ := hcont 3 (by decide)
                refine ⟨[.cells [.int .u8 lo, .int .u8 hi]] ++ E, ?_⟩
                rw [← u9t]
                simp +contextual -dsimp (disch := omega) only [↓goDown, goUp, cr, simprocAttr, u14, x0, c0, c1, hia, hac, s4, a7, w1, t0, r1, r2, dd, tl1, tu1, tl2, tu2, ih]
    · rw [hs] at a7 w1 ⊢
      simp only [show ((4 : Nat) : Int) = 4 from rfl] at a7 w1
      by_cases q0 : u.length < 4
      · have t0 : ((u.length : Int) < 4) = True := eq_true (by omega)
        rw [if_pos q0, if_pos rfl]
        exact ⟨[.cells [.int .u8 lo, .int .u8 hi]], by simp +contextual -dsimp (disch := omega) only [↓goDown, goUp, cr, simprocAttr, u14, x0, c0, c1, hia, hac, s4, a7, w1, t0]⟩
      · have t0 : ((u.length : Int) < 4) = False := eq_false (by omega)
        have r1 := r1 (by omega)
        have r2 := r2 (by omega)
        have r3 := r3 (by omega)
        have dd := d4 (by omega)
        rw [if_neg q0]
        by_cases l1 : b1 < lo
        · have tl1 : ((b1 : Int) < (lo : Int)) = True := eq_true (by omega)
          rw [if_pos (show b1 < lo ∨ hi < b1 from .inl l1), if_pos rfl]
          exact ⟨[.cells [.int .u8 lo, .int .u8 hi]], by simp +contextual -dsimp (disch := omega) only [↓goDown, goUp, cr, simprocAttr, u14, x0, c0, c1, hia, hac, s4, a7, w1, t0, r1, r2, r3, dd, tl1]⟩
        · have tl1 : ((b1 : Int) < (lo : Int)) = False := eq_false (by omega)
          by_cases u1 : hi < b1
          · have tu1 : ((hi : Int) < (b1 : Int)) = True := eq_true (by omega)
            rw [if_pos (show b1 < lo ∨ hi < b1 from .inr u1), if_pos rfl]
            exact ⟨[.cells [.int .u8 lo, .int .u8 hi]], by simp +contextual -dsimp (disch := omega) only [↓goDown, goUp, cr, simprocAttr, u14, x0, c0, c1, hia, hac, s4, a7, w1, t0, r1, r2, r3, dd, tl1, tu1]⟩
          · have tu1 : ((hi : Int) < (b1 : Int)) = False := eq_false (by omega)
            rw [if_neg (show ¬ (b1 < lo ∨ hi < b1) by omega)]
            rw [if_neg (show ¬ 4 ≤ 2 by decide)]
            by_cases l2 : b2 < 128
            · have tl2 : ((b2 : Int) < (128 : Int)) = True := eq_true (by omega)
              rw [if_pos (show b2 < 128 ∨ 191 < b2 from .inl l2), if_pos rfl]
              exact ⟨[.cells [.int .u8 lo, .int .u8 hi]], by simp +contextual -dsimp (disch := omega) only [↓goDown, goUp, cr, simprocAttr, u14, x0, c0, c1, hia, hac, s4, a7, w1, t0, r1, r2, r3, dd, tl1, tu1, tl2]⟩
            · have tl2 : ((b2 : Int) < (128 : Int)) = False := eq_false (by omega)
              by_cases u2 : 191 < b2
              · have tu2 : ((191 : Int) < (b2 : Int)) = True := eq_true (by omega)
                rw [if_pos (show b2 < 128 ∨ 191 < b2 from .inr u2), if_pos rfl]
                exact ⟨[.cells [.int .u8 lo, .int .u8 hi]], by simp +contextual -dsimp (disch := omega) only [↓goDown, goUp, cr, simprocAttr, u14, x0, c0, c1, hia, hac, s4, a7, w1, t0, r1, r2, r3, dd, tl1, tu1, tl2, tu2]⟩
              · have tu2 : ((191 : Int) < (b2 : Int)) = False := eq_false (by omega)
                rw [if_neg (show ¬ (b2 < 128 ∨ 191 < b2) by omega)]
                rw [if_neg (show ¬ 4 ≤ 3 by decide)]
                by_cases l3 : b3 < 128
                · have tl3 : ((b3 : Int) < (128 : Int)) = True := eq_true (by omega)
                  rw [if_pos (show b3 < 128 ∨ 191 < b3 from .inl l3), if_pos rfl]
                  exact ⟨[.cells [.int .u8 lo, .int .u8 hi]], by simp +contextual -dsimp (disch := omega) only [↓goDown, goUp, cr, simprocAttr, u14, x0, c0, c1, hia, hac, s4, a7, w1, t0, r1, r2, r3, dd, tl1, tu1, tl2, tu2, tl3]⟩
                · have tl3 : ((b3 : Int) < (128 : Int)) = False := eq_false (by omega)
                  by_cases u3 : 191 < b3
                  · have tu3 : ((191 : Int) < (b3 : Int)) = True := eq_true (by omega)
                    rw [if_pos (show b3 < 128 ∨ 191 < b3 from .inr u3), if_pos rfl]
                    exact ⟨[.cells [.int .u8 lo, .int .u8 hi]], by simp +contextual -dsimp (disch := omega) only [↓goDown, goUp, cr, simprocAttr, u14, x0, c0, c1, hia, hac, s4, a7, w1, t0, r1, r2, r3, dd, tl1, tu1, tl2, tu2, tl3, tu3]⟩
                  · have tu3 : ((191 : Int) < (b3 : Int)) = False := eq_false (by omega)
                    rw [if_neg (show ¬ (b3 < 128 ∨ 191 < b3) by omega)]
                    rw [if_neg (show ¬ 4 = 0 by decide)]
                    obtain ⟨E, ih⟩ := hcont 4 (by decide)
                    refine ⟨[.cells [.int .u8 lo, .int .u8 hi]] ++ E, ?_⟩
                    rw [← u9t]
                    simp +contextual -dsimp (disch := omega) only [↓goDown, goUp, cr, simprocAttr, u14, x0, c0, c1, hia, hac, s4, a7, w1, t0, r1, r2, r3, dd, tl1, tu1, tl2, tu2, tl3, tu3, ih]
theorem ued {v2 : PV} : ∀ n, VOk v2 n
  | 0 => fun u H hn hu => by
    obtain rfl : u = [] := List.eq_nil_of_length_eq_zero (by omega)
    refine ⟨[], ?_⟩
    rw [u0u, show hadd H [] = H from List.append_nil _]
    simp +contextual -dsimp (disch := omega) only [↓goDown, goUp, cr, simprocAttr, u14, List.length_nil, show ((0 : Nat) : Int) = 0 from rfl, Int.lt_irrefl]
    all_goals rfl
  | n + 1 => fun u H hn hu => by
    by_cases h : u = []
    · subst h
      refine ⟨[], ?_⟩
      rw [u0u, show hadd H [] = H from List.append_nil _]
      simp +contextual -dsimp (disch := omega) only [↓goDown, goUp, cr, simprocAttr, u14, List.length_nil, show ((0 : Nat) : Int) = 0 from rfl, Int.lt_irrefl]
      all_goals rfl
    · by_cases h0 : bN u 0 < 128
      · exact uy0 (v3 := v2) (ued n) hn hu h h0
      · exact uul (ued n) hn hu h (by omega)
theorem uu6 {u : List UInt8} (hu : u.length < 2 ^ 60) : run (C u15 [SB u]) H = some (.ok (.bool (Lib.validD u)) H) := by
  obtain ⟨E, e⟩ := ued (v2 := .bool false) u.length u H (Nat.le_refl _) hu
  rw [u8c]
  simp +contextual -dsimp (disch := omega) only [↓goDown, goUp, cr, simprocAttr, e]
theorem ucg {b : List UInt8} : ∀ (f a : Nat), b.length - a < f → (badAt b f a = none ↔ Lib.validD (b.drop a) = true)
  | 0, a, h => by omega
  | f + 1, a, h => by
    rw [badAt]
    by_cases hl : a < b.length
    · rw [if_pos hl]
      have hne : b.drop a ≠ [] := fun g => by have := congrArg List.length g; rw [List.length_drop] at this; simp at this; omega
      by_cases h0 : bN (b.drop a) 0 < 128
      · have e : letL (b.drop a) = 1 := by unfold letL letN; rw [if_pos h0]
        rw [e, if_neg (by decide), ucg f (a + 1) (by omega), Lib.validD_ascii 1 _ (uva hne h0), List.drop_drop]
      · rw [uiw hne (by omega)]
        by_cases h1 : letL (b.drop a) = 0
        · rw [if_pos h1, if_pos h1]
          simp
        · rw [if_neg h1, if_neg h1, ucg f _ (by omega), List.drop_drop]
    · rw [if_neg hl, List.drop_eq_nil_of_le (by omega)]
      simp
      rfl
theorem utj {b : List UInt8} : Lib.validD b = (utfN b).isNone := by
  have h := ucg (b := b) (b.length + 1) 0 (by omega)
  unfold utfN
  rw [List.drop_zero] at h
  cases hb : badAt b (b.length + 1) 0 with
  | none => rw [hb] at h; exact h.mp rfl
  | some x =>
    rw [hb] at h
    cases hv : Lib.validD b with
    | false => rfl
    | true => exact absurd (h.mpr hv) (by simp)
end Go.Proofs.YthnmienjiangkaaGreatDoor.Pi.Q
namespace Go.Proofs.YthnmienjiangkaaGreatDoor.Pi.Q
open Go Go.Proofs.YthnmienjiangkaaGreatDoor.Pi
attribute [local congr] ite_congr
variable {H : Heap} {z : Bool}
def rName (b : List UInt8) (e p : Nat) : Rs (List UInt8) :=
  match rdU b 32 e p with
  | .err a w => .err a w
  | .ok n q => if 65536 < n then .err p 2 else if e - q < n then .err e 3 else match utfN ((b.take (q + n)).drop q) with | some x => .err (q + x) 21 | none => .ok ((b.take (q + n)).drop q) (q + n)
def flF (a w : Nat) : PV := .iface u4o (.agg [.int .i64 a, .int .i64 w])
def outN (H : Heap) : Rs (List UInt8) → Option (Out PV)
  | .ok u q => some (.ok (.tup [SB u, .int .i64 q]) H)
  | .err a w => some (.pan (flF a w) H)
def tupN : Rs (List UInt8) → PV
  | .ok u q => .tup [SB u, .int .i64 q, .int .i64 0]
  | .err a w => .tup [.str ⟨#[]⟩, .int .i64 a, .int .i64 w]
theorem uoh {n : Nat} {s : ByteArray} : (PV.str s).low n = true := nrfl rfl
theorem utf_le {b : List UInt8} {a : Nat} (h : utfN b = some a) : a ≤ b.length := by
  have : ∀ f p, p ≤ b.length → badAt b f p = some a → a ≤ b.length := by
    intro f
    induction f with
    | zero => intro p _ h; cases h
    | succ f ih =>
      intro p hp h
      rw [badAt] at h
      by_cases hl : p < b.length
      · rw [if_pos hl] at h
        by_cases h0 : letL (b.drop p) = 0
        · rw [if_pos h0] at h
          have hol : ∀ n, opF (bN b p) (bN b (p + 1)) (bN b (p + 2)) n ≤ n := fun n => by
            induction n with
            | zero => exact Nat.le_refl _
            | succ n ih => rw [opF]; split <;> omega
          have := hol (min 4 (b.length - p))
          injection h with h
          omega
        · rw [if_neg h0] at h
          exact ih _ (ujb hl) h
      · rw [if_neg hl] at h; cases h
  exact this _ 0 (Nat.zero_le _) h
theorem uwq {b : List UInt8} {e p : Nat} (he : e ≤ b.length) (hb : b.length < 2 ^ 60) (hp : p ≤ e) :
    run (C u4j [BS z b, .int .i64 p, .int .i64 e]) H = outN H (rName b e p) := by
  have h1 := fun K => uj2 (H := K) (z := z) (b := b) (p := p) he (by omega) hp
  rw [uid]
  unfold rName
  cases hr : rdU b 32 e p with
  | err a w =>
    rw [hr] at h1
    have hw := uk4 hr
    have c1 : ((w : Int) = 0) = False := eq_false (by omega)
    simp only [retK] at h1
    simp +contextual -dsimp (disch := omega) only [↓goDown, goUp, cr, simprocAttr, h1, c1, outN, flF]
  | ok n q =>
    rw [hr] at h1
    obtain ⟨hv, hq, hqe⟩ := udj hr
    simp only [retK] at h1
    dsimp only
    by_cases g1 : 65536 < n
    · have g1' : ((65536 : Int) < (n : Int)) = True := eq_true (by omega)
      rw [if_pos g1]
      simp +contextual -dsimp (disch := omega) only [↓goDown, goUp, cr, simprocAttr, h1, u45, g1', outN, flF]
    · have g1' : ((65536 : Int) < (n : Int)) = False := eq_false (by omega)
      rw [if_neg g1]
      have e1 : ((e : Int) - (q : Int)) = ((e - q : Nat) : Int) := by omega
      have e2 : IntKind.i64.wrap ((e - q : Nat) : Int) = ((e - q : Nat) : Int) := w_i64 (by omega)
      have e3 : IntKind.u64.wrap ((e - q : Nat) : Int) = ((e - q : Nat) : Int) := w_u64 (by omega)
      have e4 : IntKind.u64.wrap (n : Int) = (n : Int) := w_u64 (by omega)
      by_cases g2 : e - q < n
      · have g2' : (((e - q : Nat) : Int) < (n : Int)) = True := eq_true (by omega)
        rw [if_pos g2]
        simp +contextual -dsimp (disch := omega) only [↓goDown, goUp, cr, simprocAttr, h1, u45, u5c, g1', e1, e2, e3, e4, g2', outN, flF]
      · have g2' : (((e - q : Nat) : Int) < (n : Int)) = False := eq_false (by omega)
        rw [if_neg g2]
        have e5 : ((q : Int) + (n : Int)) = ((q + n : Nat) : Int) := rfl
        have e6 : IntKind.i64.wrap ((q + n : Nat) : Int) = ((q + n : Nat) : Int) := w_i64 (by omega)
        have e7 : IntKind.i64.wrap (n : Int) = (n : Int) := w_i64 (by omega)
        have hs := fun K => uux (H := K) (z := z) (x := b) (n := q) (m := q + n) (by omega) (by omega)
        have hl : ((b.take (q + n)).drop q).length = n := by rw [List.length_drop, List.length_take]; omega
        have hu := fun K => v019 (H := K) (z := z) (b := (b.take (q + n)).drop q) (by omega)
        have hc := fun K o => cv_BS (H := K) (z := z) (o := o) (u := (b.take (q + n)).drop q)
        cases ht : utfN ((b.take (q + n)).drop q) with
        | none =>
          rw [ht] at hu
          simp only [utfR] at hu
          simp +contextual -dsimp (disch := omega) only [↓goDown, goUp, cr, simprocAttr, h1, u45, u5c, u74, u6h, g1', e1, e2, e3, e4, g2', e7, e5, e6, hs, hu, un_not, hc, outN, flF]
        | some x =>
          have hx := utf_le ht
          have e8 : ((q : Int) + (x : Int)) = ((q + x : Nat) : Int) := rfl
          have e9 : IntKind.i64.wrap ((q + x : Nat) : Int) = ((q + x : Nat) : Int) := w_i64 (by omega)
          rw [ht] at hu
          simp only [utfR] at hu
          simp +contextual -dsimp (disch := omega) only [↓goDown, goUp, cr, simprocAttr, h1, u45, u5c, u74, u6h, g1', e1, e2, e3, e4, g2', e7, e5, e6, hs, hu, un_not, e8, e9, outN, flF]
end Go.Proofs.YthnmienjiangkaaGreatDoor.Pi.Q
namespace Go.Proofs.YthnmienjiangkaaGreatDoor.Pi.Q
open Go Go.Proofs.YthnmienjiangkaaGreatDoor.Pi
attribute [local congr] ite_congr
variable {H : Heap} {z : Bool}
def nameP (b : List UInt8) (at_ : Int) : PV := if at_ < 0 ∨ (b.length : Int) < at_ then .tup [.str ⟨#[]⟩, .int .i64 0, .int .i64 1] else tupN (rName b b.length at_.toNat)
theorem unm {b : List UInt8} {e p a w : Nat} (h : rName b e p = .err a w) : w ≠ 0 := by
  unfold rName at h
  cases hr : rdU b 32 e p with
  | err a' w' => rw [hr] at h; injection h with h1 h2; subst h2; exact uk4 hr
  | ok n q =>
    rw [hr] at h
    dsimp only at h
    repeat' split at h
    all_goals first | (injection h with h1 h2; omega) | cases h
theorem uzy {b : List UInt8} (hb : b.length < 2 ^ 60) {at_ : Int} : run (C uah [BS z b, .int .i64 at_]) H = some (.ok (nameP b at_) H) := by
  rw [ukj]
  unfold nameP
  by_cases h1 : at_ < 0
  · rw [if_pos (.inl h1)]
    simp +contextual -dsimp (disch := omega) only [↓goDown, goUp, cr, simprocAttr, eq_true h1]
  · by_cases h2 : (b.length : Int) < at_
    · rw [if_pos (.inr h2)]
      simp +contextual -dsimp (disch := omega) only [↓goDown, goUp, cr, simprocAttr, h1, h2, List.length_map]
    · rw [if_neg (by omega)]
      obtain ⟨p, rfl⟩ := Int.eq_ofNat_of_zero_le (show 0 ≤ at_ by omega)
      rw [Int.toNat_natCast]
      have hk := fun K => uwq (H := K) (z := z) (b := b) (e := b.length) (p := p) (Nat.le_refl _) hb (by omega)
      cases hr : rName b b.length p with
      | ok u q =>
        rw [hr] at hk
        simp only [outN, tupN] at hk ⊢
        simp +contextual -dsimp (disch := omega) only [↓goDown, goUp, cr, simprocAttr, h1, h2, List.length_map, ub9, uao, run_mf, hk, flF, u8z, u8u, run_ta, bi_if, bi_ifn, cutL, uer, Nat.reduceBeqDiff]
      | err a w =>
        have hw := unm hr
        have c1 : ((w : Int) = 0) = False := eq_false (by omega)
        rw [hr] at hk
        simp only [outN, tupN] at hk ⊢
        simp +contextual -dsimp (disch := omega) only [↓goDown, goUp, cr, simprocAttr, h1, h2, List.length_map, ub9, uao, run_mf, hk, flF, u8z, u8u, run_ta, bi_if, bi_ifn, cutL, uer, Nat.reduceBeqDiff, c1]
def wName (u : List UInt8) : List UInt8 × Nat := if 65536 < u.length then ([], 2) else if (utfN u).isSome then ([], 21) else (putU u.length ++ u, 0)
def putP (u : List UInt8) : PV := .tup [accB (wName u).1, .int .i64 (wName u).2]
theorem ap_str {acc u : List UInt8} {K : Heap} (ha : acc ≠ []) (h : acc.length + u.length ≤ 140737488355328) : run (ap true 1 1 (accB acc) (SB u)) K = some (.ok (accB (acc ++ u)) K) := by
  cases acc with
  | nil => exact absurd rfl ha
  | cons y a =>
    unfold accB accP run ap tail growB
    have h2 : ((byt y :: bytes a).length + (bytes u).length) * max 1 1 ≤ 140737488355328 := by simpa [bytes] using h
    have e : (u.map fun b => PV.int .u8 b.toNat) = bytes u := rfl
    simp only [bytes, List.map_cons, List.cons_append, List.map_append, beq_self_eq_true, Bool.or_true, cond_true, cond_false, Bool.true_and, e] at h2 ⊢
    rw [decide_eq_true h2]
    rfl
theorem low_aB {b : List UInt8} {n : Nat} : (accB b).low n = true := u69
theorem uyq {b : List UInt8} : isTup (accB b) = false := u2a
theorem uoy {u : List UInt8} : run (C u49 [SB u]) H = some (.ok (putP u) H) := by
  rw [ufj]
  unfold putP wName
  by_cases g : 65536 < u.length
  · have g' : ((65536 : Int) < (u.length : Int)) = True := eq_true (by omega)
    rw [if_pos g]
    simp +contextual -dsimp (disch := omega) only [↓goDown, goUp, cr, simprocAttr, u14, g']
    all_goals rfl
  · have g' : ((65536 : Int) < (u.length : Int)) = False := eq_false (by omega)
    rw [if_neg g]
    have hu : u.length < 2 ^ 60 := by omega
    have hv := fun K => uu6 (H := K) (u := u) (by omega)
    rw [utj] at hv
    have hp := fun K => uxd (H := K) (n := u.length) (by omega)
    have h10 := ua2 (n := u.length) (by omega)
    have ha := fun K => ap_str (K := K) (acc := putU u.length) (u := u) v017 (by omega)
    have e1 : IntKind.u64.wrap (u.length : Int) = (u.length : Int) := w_u64 (by omega)
    cases ht : utfN u with
    | some x =>
      rw [ht] at hv
      simp only [Option.isNone_some] at hv
      rw [if_pos (show (some x).isSome = true from rfl)]
      simp +contextual -dsimp (disch := omega) only [↓goDown, goUp, cr, simprocAttr, u14, g', hv, un_not]
      all_goals rfl
    | none =>
      rw [ht] at hv
      simp only [Option.isNone_none] at hv
      rw [if_neg (show ¬ (none : Option Nat).isSome = true from by simp)]
      simp +contextual -dsimp (disch := omega) only [↓goDown, goUp, cr, simprocAttr, u14, g', hv, un_not, e1, hp, ha, low_aB, uyq]
end Go.Proofs.YthnmienjiangkaaGreatDoor.Pi.Q
namespace Go.Proofs.YthnmienjiangkaaGreatDoor.Pi.Q
open Go Go.Proofs.YthnmienjiangkaaGreatDoor.Pi
attribute [local congr] ite_congr
variable {c : Nat} {H : Heap} {L : List Box} {acc : List UInt8}
def kTable (v : TB) (acc : List UInt8) : KR := (kMust (decide (v.elem.num = 5)) acc).bind fun _ acc => (kVal v.elem acc).bind fun _ acc => u9a v.lim acc
theorem tableK {v : TB} (t1 : 0 ≤ v.lim.min ∧ v.lim.min < 18446744073709551616) (t2 : 0 ≤ v.lim.max ∧ v.lim.max < 18446744073709551616) (hc : c < List.length H) : runK c (C u75 [.ptr c 0, .agg [.int .i64 v.elem.num, .bool v.elem.nul, .int .i64 v.elem.heap, .bool v.lim.wide, .int .u64 v.lim.min, .int .u64 v.lim.max, .bool v.lim.has]]) (St H c (pB acc) L) = outK c H L pB encU (kTable v acc) := liftK (fun H hc => by
  obtain ⟨⟨en, eu, eh⟩, lim⟩ := v
  have hv := fun L acc => valK (c := c) (H := H) (L := L) (acc := acc) (v := ⟨en, eu, eh⟩) hc
  have hl := fun L acc => uup (c := c) (H := H) (L := L) (acc := acc) t1 t2 hc
  simp only at hv hl ⊢
  rw [udy]
  unfold kTable
  by_cases h5 : en = 5
  · subst h5
    simp +contextual -dsimp (disch := omega) only [↓kDown, kUp, ↓goDown, goUp, cr, simprocAttr, mustK, kMust, hv, hl, u0s] <;> rfl
  · simp +contextual -dsimp (disch := omega) only [↓kDown, kUp, ↓goDown, goUp, cr, simprocAttr, eq_false h5, mustK, kMust, hv, hl, u0s] <;> rfl) hc
def ucm (v : GO) (acc : List UInt8) : KR := (kVal v.ty acc).bind fun _ acc => kPut [if v.mu then 1 else 0] acc
theorem v00v {v : GO} (hc : c < List.length H) : runK c (C u6p [.ptr c 0, .agg [.int .i64 v.ty.num, .bool v.ty.nul, .int .i64 v.ty.heap, .bool v.mu]]) (St H c (pB acc) L) = outK c H L pB encU (ucm v acc) := liftK (fun H hc => by
  have hv := fun L acc => valK (c := c) (H := H) (L := L) (acc := acc) (v := v.ty) hc
  have hf := fun L acc => flagK (c := c) (H := H) (L := L) (acc := acc) (b := v.mu) hc
  rw [uch]
  unfold ucm
  simp +contextual -dsimp (disch := omega) only [↓kDown, kUp, ↓goDown, goUp, cr, simprocAttr, hv, hf, u0s] <;> rfl) hc
def kName (u : List UInt8) (acc : List UInt8) : KR := if (wName u).2 = 0 then kPut (wName u).1 acc else .err u02 [0, (wName u).2]
theorem ap_XZ {acc u : List UInt8} {K : Heap} : run (ap true 1 1 (accB acc) (LZ true 1 (bytes u))) K = if acc.length + u.length ≤ 140737488355328 then some (.ok (accB (acc ++ u)) K) else none := by
  rw [← ap_X]
  cases u with
  | nil => cases acc <;> rfl
  | cons x r => cases acc <;> rfl
theorem uyh {a : List UInt8} : strip (accB a) = LZ true 1 (bytes a) := strip_acc.trans ul4
theorem uss {s : ByteArray} (hu : s.size ≤ maxLen) {K : Heap} : run (C u49 [.str s]) K = some (.ok (.tup [accB (wName s.data.toList).1, .int .i64 (wName s.data.toList).2]) K) := by
  obtain ⟨⟨u⟩⟩ := s
  exact uoy (u := u)
theorem nameK {s : ByteArray} (hu : s.size ≤ maxLen) (hc : c < List.length H) : runK c (C u4w [.ptr c 0, .str s]) (St H c (pB acc) L) = outK c H L pB encU (kName s.data.toList acc) := liftK (fun H hc => by
  have hp := fun K => uss hu (K := K)
  rw [uea]
  unfold kName kPut
  by_cases h : (wName s.data.toList).2 = 0
  · rw [h] at hp
    simp only [h, if_true]
    simp +contextual -dsimp (disch := omega) only [↓kDown, kUp, ↓goDown, goUp, cr, simprocAttr, toK (m := C u49 [.str s]), hp, show ((0 : Nat) : Int) = 0 from rfl, uag, uyh, urw, upj, ubh, uef, low_B, ap_XZ, strip_Z, u0o, u16, u0n, u18, low_Z, u0s] <;> rfl
  · have h' : (((wName s.data.toList).2 : Nat) : Int) = 0 ↔ False := iff_false_intro (by omega)
    simp only [h, if_false]
    simp +contextual -dsimp (disch := omega) only [↓kDown, kUp, ↓goDown, goUp, cr, simprocAttr, toK (m := C u49 [.str s]), hp, h', upj, ubh, uef, low_B, u0s] <;> rfl) hc
abbrev tb0 : TB := ⟨⟨0, false, 0⟩, ⟨false, 0, 0, false⟩⟩
abbrev lt0 : LT := ⟨false, 0, 0, false⟩
abbrev go0 : GO := ⟨⟨0, false, 0⟩, false⟩
def okX (v : XT) : Prop := 0 ≤ v.kind ∧ v.kind ≤ 4 ∧ (v.kind = 0 ∨ v.kind = 4 ∨ v.ty = 0) ∧ (v.kind = 1 ∨ v.tab = tb0) ∧ (v.kind = 2 ∨ v.mem = lt0) ∧ (v.kind = 3 ∨ v.glo = go0)
instance {v : XT} : Decidable (okX v) := by unfold okX; infer_instance
def kExt (v : XT) (acc : List UInt8) : KR := (kMust (decide (okX v)) acc).bind fun _ acc => (kPut [UInt8.ofNat (IntKind.u8.wrap v.kind).toNat] acc).bind fun _ acc =>
  if v.kind = 0 then kIndex v.ty acc else if v.kind = 1 then kTable v.tab acc else if v.kind = 2 then u9a v.mem acc else if v.kind = 3 then ucm v.glo acc else kTag v.ty acc
theorem extK {v : XT} (t1 : 0 ≤ v.tab.lim.min ∧ v.tab.lim.min < 18446744073709551616) (t2 : 0 ≤ v.tab.lim.max ∧ v.tab.lim.max < 18446744073709551616) (m1 : 0 ≤ v.mem.min ∧ v.mem.min < 18446744073709551616) (m2 : 0 ≤ v.mem.max ∧ v.mem.max < 18446744073709551616) (hc : c < List.length H) : runK c (C u3w [.ptr c 0, .agg [.int .i64 v.kind, .int .i64 v.ty, .int .i64 v.tab.elem.num, .bool v.tab.elem.nul, .int .i64 v.tab.elem.heap, .bool v.tab.lim.wide, .int .u64 v.tab.lim.min, .int .u64 v.tab.lim.max, .bool v.tab.lim.has, .bool v.mem.wide, .int .u64 v.mem.min, .int .u64 v.mem.max, .bool v.mem.has, .int .i64 v.glo.ty.num, .bool v.glo.ty.nul, .int .i64 v.glo.ty.heap, .bool v.glo.mu]]) (St H c (pB acc) L) = outK c H L pB encU (kExt v acc) := liftK (fun H hc => by
  obtain ⟨kind, ty, ⟨⟨a1, a2, a3⟩, ⟨b1, b2, b3, b4⟩⟩, ⟨c1, c2, c3, c4⟩, ⟨⟨d1, d2, d3⟩, d4⟩⟩ := v
  have hb := fun n h0 h1 L acc => byteK (c := c) (H := H) (L := L) (acc := acc) (n := n) h0 h1 hc
  have hi := fun L acc => indexK (c := c) (H := H) (L := L) (acc := acc) (n := ty) hc
  have ht := fun L acc => tableK (c := c) (H := H) (L := L) (acc := acc) (v := ⟨⟨a1, a2, a3⟩, ⟨b1, b2, b3, b4⟩⟩) t1 t2 hc
  have hl := fun L acc => uup (c := c) (H := H) (L := L) (acc := acc) (v := ⟨c1, c2, c3, c4⟩) m1 m2 hc
  have hg := fun L acc => v00v (c := c) (H := H) (L := L) (acc := acc) (v := ⟨⟨d1, d2, d3⟩, d4⟩) hc
  have hx := fun L acc => tagK (c := c) (H := H) (L := L) (acc := acc) (n := ty) hc
  simp only at ht hl hg ⊢
  rw [ucq]
  unfold kExt
  by_cases k0 : kind = 0
  · subst k0
    have he : ∀ K, run (bi .eql (.struct [.int, .int, .int, .bool, .int, .bool, .int, .int, .bool, .bool, .int, .int, .bool, .int, .bool, .int, .bool]) (.agg [.int .i64 0, .int .i64 ty, .int .i64 a1, .bool a2, .int .i64 a3, .bool b1, .int .u64 b2, .int .u64 b3, .bool b4, .bool c1, .int .u64 c2, .int .u64 c3, .bool c4, .int .i64 d1, .bool d2, .int .i64 d3, .bool d4]) (.agg [.int .i64 0, .int .i64 ty, .int .i64 0, .bool false, .int .i64 0, .bool false, .int .u64 0, .int .u64 0, .bool false, .bool false, .int .u64 0, .int .u64 0, .bool false, .int .i64 0, .bool false, .int .i64 0, .bool false])) K = some (.ok (.bool (decide (okX (⟨0, ty, ⟨⟨a1, a2, a3⟩, ⟨b1, b2, b3, b4⟩⟩, ⟨c1, c2, c3, c4⟩, ⟨⟨d1, d2, d3⟩, d4⟩⟩)))) K) := fun K => ue2 (.int (.int (.int (.bool (.int (.bool (.int (.int (.bool (.bool (.int (.int (.bool (.int (.bool (.int (.bool .nil))))))))))))))))) (by unfold okX tb0 lt0 go0; constructor <;> intro h <;> simp_all)
    simp +contextual -dsimp (disch := omega) only [↓kDown, kUp, ↓goDown, goUp, cr, simprocAttr, hb, hi, ht, hl, hg, hx, he, mustK, kMust, u0z, u1y, u0s] <;> rfl
  · skip
    by_cases k1 : kind = 1
    · subst k1
      have he : ∀ K, run (bi .eql (.struct [.int, .int, .int, .bool, .int, .bool, .int, .int, .bool, .bool, .int, .int, .bool, .int, .bool, .int, .bool]) (.agg [.int .i64 1, .int .i64 ty, .int .i64 a1, .bool a2, .int .i64 a3, .bool b1, .int .u64 b2, .int .u64 b3, .bool b4, .bool c1, .int .u64 c2, .int .u64 c3, .bool c4, .int .i64 d1, .bool d2, .int .i64 d3, .bool d4]) (.agg [.int .i64 1, .int .i64 0, .int .i64 a1, .bool a2, .int .i64 a3, .bool b1, .int .u64 b2, .int .u64 b3, .bool b4, .bool false, .int .u64 0, .int .u64 0, .bool false, .int .i64 0, .bool false, .int .i64 0, .bool false])) K = some (.ok (.bool (decide (okX (⟨1, ty, ⟨⟨a1, a2, a3⟩, ⟨b1, b2, b3, b4⟩⟩, ⟨c1, c2, c3, c4⟩, ⟨⟨d1, d2, d3⟩, d4⟩⟩)))) K) := fun K => ue2 (.int (.int (.int (.bool (.int (.bool (.int (.int (.bool (.bool (.int (.int (.bool (.int (.bool (.int (.bool .nil))))))))))))))))) (by unfold okX tb0 lt0 go0; constructor <;> intro h <;> simp_all)
      simp +contextual -dsimp (disch := omega) only [↓kDown, kUp, ↓goDown, goUp, cr, simprocAttr, hb, hi, ht, hl, hg, hx, he, mustK, kMust, u0z, u1y, u0s] <;> rfl
    · skip
      by_cases k2 : kind = 2
      · subst k2
        have he : ∀ K, run (bi .eql (.struct [.int, .int, .int, .bool, .int, .bool, .int, .int, .bool, .bool, .int, .int, .bool, .int, .bool, .int, .bool]) (.agg [.int .i64 2, .int .i64 ty, .int .i64 a1, .bool a2, .int .i64 a3, .bool b1, .int .u64 b2, .int .u64 b3, .bool b4, .bool c1, .int .u64 c2, .int .u64 c3, .bool c4, .int .i64 d1, .bool d2, .int .i64 d3, .bool d4]) (.agg [.int .i64 2, .int .i64 0, .int .i64 0, .bool false, .int .i64 0, .bool false, .int .u64 0, .int .u64 0, .bool false, .bool c1, .int .u64 c2, .int .u64 c3, .bool c4, .int .i64 0, .bool false, .int .i64 0, .bool false])) K = some (.ok (.bool (decide (okX (⟨2, ty, ⟨⟨a1, a2, a3⟩, ⟨b1, b2, b3, b4⟩⟩, ⟨c1, c2, c3, c4⟩, ⟨⟨d1, d2, d3⟩, d4⟩⟩)))) K) := fun K => ue2 (.int (.int (.int (.bool (.int (.bool (.int (.int (.bool (.bool (.int (.int (.bool (.int (.bool (.int (.bool .nil))))))))))))))))) (by unfold okX tb0 lt0 go0; constructor <;> intro h <;> simp_all)
        simp +contextual -dsimp (disch := omega) only [↓kDown, kUp, ↓goDown, goUp, cr, simprocAttr, hb, hi, ht, hl, hg, hx, he, mustK, kMust, u0z, u1y, u0s] <;> rfl
      · skip
        by_cases k3 : kind = 3
        · subst k3
          have he : ∀ K, run (bi .eql (.struct [.int, .int, .int, .bool, .int, .bool, .int, .int, .bool, .bool, .int, .int, .bool, .int, .bool, .int, .bool]) (.agg [.int .i64 3, .int .i64 ty, .int .i64 a1, .bool a2, .int .i64 a3, .bool b1, .int .u64 b2, .int .u64 b3, .bool b4, .bool c1, .int .u64 c2, .int .u64 c3, .bool c4, .int .i64 d1, .bool d2, .int .i64 d3, .bool d4]) (.agg [.int .i64 3, .int .i64 0, .int .i64 0, .bool false, .int .i64 0, .bool false, .int .u64 0, .int .u64 0, .bool false, .bool false, .int .u64 0, .int .u64 0, .bool false, .int .i64 d1, .bool d2, .int .i64 d3, .bool d4])) K = some (.ok (.bool (decide (okX (⟨3, ty, ⟨⟨a1, a2, a3⟩, ⟨b1, b2, b3, b4⟩⟩, ⟨c1, c2, c3, c4⟩, ⟨⟨d1, d2, d3⟩, d4⟩⟩)))) K) := fun K => ue2 (.int (.int (.int (.bool (.int (.bool (.int (.int (.bool (.bool (.int (.int (.bool (.int (.bool (.int (.bool .nil))))))))))))))))) (by unfold okX tb0 lt0 go0; constructor <;> intro h <;> simp_all)
          simp +contextual -dsimp (disch := omega) only [↓kDown, kUp, ↓goDown, goUp, cr, simprocAttr, hb, hi, ht, hl, hg, hx, he, mustK, kMust, u0z, u1y, u0s] <;> rfl
        · skip
          by_cases k4 : kind = 4
          · subst k4
            have he : ∀ K, run (bi .eql (.struct [.int, .int, .int, .bool, .int, .bool, .int, .int, .bool, .bool, .int, .int, .bool, .int, .bool, .int, .bool]) (.agg [.int .i64 4, .int .i64 ty, .int .i64 a1, .bool a2, .int .i64 a3, .bool b1, .int .u64 b2, .int .u64 b3, .bool b4, .bool c1, .int .u64 c2, .int .u64 c3, .bool c4, .int .i64 d1, .bool d2, .int .i64 d3, .bool d4]) (.agg [.int .i64 4, .int .i64 ty, .int .i64 0, .bool false, .int .i64 0, .bool false, .int .u64 0, .int .u64 0, .bool false, .bool false, .int .u64 0, .int .u64 0, .bool false, .int .i64 0, .bool false, .int .i64 0, .bool false])) K = some (.ok (.bool (decide (okX (⟨4, ty, ⟨⟨a1, a2, a3⟩, ⟨b1, b2, b3, b4⟩⟩, ⟨c1, c2, c3, c4⟩, ⟨⟨d1, d2, d3⟩, d4⟩⟩)))) K) := fun K => ue2 (.int (.int (.int (.bool (.int (.bool (.int (.int (.bool (.bool (.int (.int (.bool (.int (.bool (.int (.bool .nil))))))))))))))))) (by unfold okX tb0 lt0 go0; constructor <;> intro h <;> simp_all)
            simp +contextual -dsimp (disch := omega) only [↓kDown, kUp, ↓goDown, goUp, cr, simprocAttr, hb, hi, ht, hl, hg, hx, he, mustK, kMust, u0z, u1y, u0s] <;> rfl
          · have hno : ¬ okX (⟨kind, ty, ⟨⟨a1, a2, a3⟩, ⟨b1, b2, b3, b4⟩⟩, ⟨c1, c2, c3, c4⟩, ⟨⟨d1, d2, d3⟩, d4⟩⟩) := fun h => by have h1 := h.1; have h2 := h.2.1; simp only at h1 h2; omega
            simp +contextual -dsimp (disch := omega) only [↓kDown, kUp, ↓goDown, goUp, cr, simprocAttr, eq_false k0, eq_false k1, eq_false k2, eq_false k3, eq_false k4, mustK, kMust, u0z, decide_eq_false hno, u0s] <;> rfl) hc
def ud1 (v : IM) (acc : List UInt8) : KR := (kName v.mod.data.toList acc).bind fun _ acc => (kName v.nm.data.toList acc).bind fun _ acc => kExt v.ext acc
theorem uzd {v : IM} {j : Nat} (t1 : 0 ≤ v.ext.tab.lim.min ∧ v.ext.tab.lim.min < 18446744073709551616) (t2 : 0 ≤ v.ext.tab.lim.max ∧ v.ext.tab.lim.max < 18446744073709551616) (m1 : 0 ≤ v.ext.mem.min ∧ v.ext.mem.min < 18446744073709551616) (m2 : 0 ≤ v.ext.mem.max ∧ v.ext.mem.max < 18446744073709551616) (u1 : v.mod.size ≤ maxLen) (u2 : v.nm.size ≤ maxLen) (hj : hget H j = some (.cells [.str v.mod, .str v.nm, .int .i64 v.ext.kind, .int .i64 v.ext.ty, .int .i64 v.ext.tab.elem.num, .bool v.ext.tab.elem.nul, .int .i64 v.ext.tab.elem.heap, .bool v.ext.tab.lim.wide, .int .u64 v.ext.tab.lim.min, .int .u64 v.ext.tab.lim.max, .bool v.ext.tab.lim.has, .bool v.ext.mem.wide, .int .u64 v.ext.mem.min, .int .u64 v.ext.mem.max, .bool v.ext.mem.has, .int .i64 v.ext.glo.ty.num, .bool v.ext.glo.ty.nul, .int .i64 v.ext.glo.ty.heap, .bool v.ext.glo.mu])) (hjc : j < c) (hc : c < List.length H) : runK c (C u4n [.ptr c 0, .ptr j 0]) (St H c (pB acc) []) = outK c H [] pB encU (ud1 v acc) := by
  have hg := fun a L => get_j hj hjc hc (a := a) (L := L)
  have h1 := fun L acc => nameK (c := c) (H := H) (L := L) (acc := acc) u1 hc
  have h2 := fun L acc => nameK (c := c) (H := H) (L := L) (acc := acc) u2 hc
  have h3 := fun L acc => extK (c := c) (H := H) (L := L) (acc := acc) t1 t2 m1 m2 hc
  rw [ubu]
  unfold ud1
  simp +contextual -dsimp (disch := omega) only [↓kDown, kUp, ↓goDown, goUp, cr, simprocAttr, hg, h1, h2, h3, u0s] <;> rfl
theorem ujn {v : IM} (t1 : 0 ≤ v.ext.tab.lim.min ∧ v.ext.tab.lim.min < 18446744073709551616) (t2 : 0 ≤ v.ext.tab.lim.max ∧ v.ext.tab.lim.max < 18446744073709551616) (m1 : 0 ≤ v.ext.mem.min ∧ v.ext.mem.min < 18446744073709551616) (m2 : 0 ≤ v.ext.mem.max ∧ v.ext.mem.max < 18446744073709551616) (u1 : v.mod.size ≤ maxLen) (u2 : v.nm.size ≤ maxLen) (hr : OkR (ud1 v [])) : run (C u79 [.agg [.str v.mod, .str v.nm, .int .i64 v.ext.kind, .int .i64 v.ext.ty, .int .i64 v.ext.tab.elem.num, .bool v.ext.tab.elem.nul, .int .i64 v.ext.tab.elem.heap, .bool v.ext.tab.lim.wide, .int .u64 v.ext.tab.lim.min, .int .u64 v.ext.tab.lim.max, .bool v.ext.tab.lim.has, .bool v.ext.mem.wide, .int .u64 v.ext.mem.min, .int .u64 v.ext.mem.max, .bool v.ext.mem.has, .int .i64 v.ext.glo.ty.num, .bool v.ext.glo.ty.nul, .int .i64 v.ext.glo.ty.heap, .bool v.ext.glo.mu]]) H = outW (ud1 v []) H := by
  have hw := put_1 (H := H) (f1 := u4n) (bx1 := .cells [.str v.mod, .str v.nm, .int .i64 v.ext.kind, .int .i64 v.ext.ty, .int .i64 v.ext.tab.elem.num, .bool v.ext.tab.elem.nul, .int .i64 v.ext.tab.elem.heap, .bool v.ext.tab.lim.wide, .int .u64 v.ext.tab.lim.min, .int .u64 v.ext.tab.lim.max, .bool v.ext.tab.lim.has, .bool v.ext.mem.wide, .int .u64 v.ext.mem.min, .int .u64 v.ext.mem.max, .bool v.ext.mem.has, .int .i64 v.ext.glo.ty.num, .bool v.ext.glo.ty.nul, .int .i64 v.ext.glo.ty.heap, .bool v.ext.glo.mu]) hr (fun K j c hj h1 h2 => uzd t1 t2 m1 m2 u1 u2 hj h1 h2)
  rw [uda]
  cases hk : ud1 v [] with
  | ok u acc =>
    rw [hk] at hw
    simp only [outW] at hw ⊢
    simp +contextual -dsimp (disch := omega) only [↓goDown, goUp, cr, simprocAttr, run_mf, hw, u18, u0n, low_Z, u0o, u16, strip_Z]
  | err t l =>
    obtain ⟨rfl, p, w, rfl⟩ := hr.1 _ _ hk
    rw [hk] at hw
    simp only [outW, if_true] at hw ⊢
    simp +contextual -dsimp (disch := omega) only [↓goDown, goUp, cr, simprocAttr, run_mf, hw, u18, u0n, low_Z, u0o, u16, strip_Z]
  | no => exact absurd hk hr.2
end Go.Proofs.YthnmienjiangkaaGreatDoor.Pi.Q
namespace Go.Proofs.YthnmienjiangkaaGreatDoor.Pi.Q
open Go Go.Proofs.YthnmienjiangkaaGreatDoor.Pi
attribute [local congr] ite_congr
variable {c : Nat} {H : Heap} {L : List Box} {b : List UInt8} {f : Int}
def gTable (v : TB) (s : WS) : GR := (gVal false v.elem (gMust (decide (v.elem.num = 5)) 4 s)).bind fun _ s => ukt v.lim s
def uv5 (v : GO) (s : WS) : GR := (gVal false v.ty s).bind fun _ s => gFlag v.mu s
def gName (u : List UInt8) (s : WS) : GR := gPut (wName u).1 (gMust (decide ((wName u).2 = 0)) (wName u).2 s)
def blP (v : XT) (k : Int) : Prop := (k = 0 ∨ k = 4 ∨ v.ty = 0) ∧ (k = 1 ∨ v.tab = tb0) ∧ (k = 2 ∨ v.mem = lt0) ∧ (k = 3 ∨ v.glo = go0)
instance {v : XT} {k : Int} : Decidable (blP v k) := by unfold blP; infer_instance
end Go.Proofs.YthnmienjiangkaaGreatDoor.Pi.Q
namespace Go.Proofs.YthnmienjiangkaaGreatDoor.Pi.Q
open Go Go.Proofs.YthnmienjiangkaaGreatDoor.Pi
attribute [local congr] ite_congr
variable {c : Nat} {H : Heap} {L : List Box} {b : List UInt8} {f : Int}
def gTail (v : XT) (s : WS) : GR := if v.kind = 0 then gIndex v.ty s else if v.kind = 1 then gTable v.tab s else if v.kind = 2 then ukt v.mem s else if v.kind = 3 then uv5 v.glo s else if v.kind = 4 then (gPut [0] s).bind fun _ s => gIndex v.ty s else .ok () s
def gExt (v : XT) (s : WS) : GR := (gPut [UInt8.ofNat (IntKind.u8.wrap v.kind).toNat] (gMust (decide (okX v)) 4 s)).bind fun _ s => gTail v s
def uzm (v : IM) (s : WS) : GR := (gName v.mod.data.toList s).bind fun _ s => (gName v.nm.data.toList s).bind fun _ s => gExt v.ext s
end Go.Proofs.YthnmienjiangkaaGreatDoor.Pi.Q
namespace Go.Proofs.YthnmienjiangkaaGreatDoor.Pi.Q
open Go Go.Proofs.YthnmienjiangkaaGreatDoor.Pi
theorem uu7 {v : TB} (h1 : I64 v.elem.heap) (h2 : 0 ≤ v.lim.min ∧ v.lim.min < 18446744073709551616) (h3 : 0 ≤ v.lim.max ∧ v.lim.max < 18446744073709551616) : Sim 32 (kTable v) (gTable v) := by
  refine u0e (((ufw (b := decide (v.elem.num = 5)) (c := decide (v.elem.num = 5)) (e := 4) (by decide) rfl).bind ((uhi h1).bind (ujj h2 h3))).mono (by decide)) (fun acc => ?_) (fun s => rfl)
  rfl
theorem uta {v : GO} (h1 : I64 v.ty.heap) : Sim 12 (ucm v) (uv5 v) := (uhi h1).bind urq
theorem uq5 {u : List UInt8} : (wName u).1.length ≤ 65546 := by
  unfold wName
  split
  · simp
  · have := ua2 (n := u.length) (by omega)
    split
    · simp
    · simp; omega
theorem name_sim {u : List UInt8} : Sim 65546 (kName u) (gName u) := by
  by_cases h : (wName u).2 = 0
  · refine u0e (u2u (u := (wName u).1) uq5) (fun acc => if_pos h) (fun s => ?_)
    unfold gName
    rw [decide_eq_true h, u7j]
  · refine u0e (u43 (e := (wName u).2) (g := gPut (wName u).1) (by omega) (u6j uq5)) (fun acc => if_neg h) (fun s => ?_)
    unfold gName
    rw [decide_eq_false h]
theorem uxw {v : XT} (h0 : v.ty ≤ 9223372036854775807) (h1 : I64 v.tab.elem.heap) (h2 : 0 ≤ v.tab.lim.min ∧ v.tab.lim.min < 18446744073709551616) (h3 : 0 ≤ v.tab.lim.max ∧ v.tab.lim.max < 18446744073709551616)
    (h4 : 0 ≤ v.mem.min ∧ v.mem.min < 18446744073709551616) (h5 : 0 ≤ v.mem.max ∧ v.mem.max < 18446744073709551616) (h6 : I64 v.glo.ty.heap) (hk : 0 ≤ v.kind ∧ v.kind ≤ 4) :
    Sim 50 (fun acc => if v.kind = 0 then kIndex v.ty acc else if v.kind = 1 then kTable v.tab acc else if v.kind = 2 then u9a v.mem acc else if v.kind = 3 then ucm v.glo acc else kTag v.ty acc) (gTail v) := by
  unfold gTail
  by_cases k0 : v.kind = 0
  · simp only [if_pos k0]; exact (uhs h0).mono (by decide)
  · simp only [if_neg k0]
    by_cases k1 : v.kind = 1
    · simp only [if_pos k1]; exact (uu7 h1 h2 h3).mono (by decide)
    · simp only [if_neg k1]
      by_cases k2 : v.kind = 2
      · simp only [if_pos k2]; exact (ujj h4 h5).mono (by decide)
      · simp only [if_neg k2]
        by_cases k3 : v.kind = 3
        · simp only [if_pos k3]; exact (uta h6).mono (by decide)
        · simp only [if_neg k3, if_pos (show v.kind = 4 by omega)]
          exact ((u2u (u := [0]) (n := 1) (by simp)).bind (uhs h0)).mono (by decide)
theorem uzw {v : XT} (h0 : v.ty ≤ 9223372036854775807) (h1 : I64 v.tab.elem.heap) (h2 : 0 ≤ v.tab.lim.min ∧ v.tab.lim.min < 18446744073709551616) (h3 : 0 ≤ v.tab.lim.max ∧ v.tab.lim.max < 18446744073709551616)
    (h4 : 0 ≤ v.mem.min ∧ v.mem.min < 18446744073709551616) (h5 : 0 ≤ v.mem.max ∧ v.mem.max < 18446744073709551616) (h6 : I64 v.glo.ty.heap) : Sim 60 (kExt v) (gExt v) := by
  by_cases hk : 0 ≤ v.kind ∧ v.kind ≤ 4
  · exact ((ufw (b := decide (okX v)) (c := decide (okX v)) (e := 4) (by decide) rfl).bind ((u2u (u := [UInt8.ofNat (IntKind.u8.wrap v.kind).toNat]) (n := 1) (by simp)).bind (uxw h0 h1 h2 h3 h4 h5 h6 hk))).mono (by decide)
  · have hno : ¬ okX v := fun h => hk ⟨h.1, h.2.1⟩
    have rt : Runs 60 (fun s => (gPut [UInt8.ofNat (IntKind.u8.wrap v.kind).toNat] s).bind fun _ s => gTail v s) := by
      intro acc e ha he
      obtain ⟨b, h1, h2⟩ := (u6j (u := [UInt8.ofNat (IntKind.u8.wrap v.kind).toNat]) (n := 1) (by simp)) acc e (by omega) he
      refine ⟨b, by omega, ?_⟩
      simp only [h2, Res.bind]
      unfold gTail
      rw [if_neg (by omega), if_neg (by omega), if_neg (by omega), if_neg (by omega), if_neg (by omega)]
    refine u0e (u43 (e := 4) (by decide) rt) (fun acc => ?_) (fun s => ?_)
    · unfold kExt kMust
      rw [decide_eq_false hno]
      rfl
    · unfold gExt
      rw [decide_eq_false hno]
theorem uth {v : IM} (h0 : v.ext.ty ≤ 9223372036854775807) (h1 : I64 v.ext.tab.elem.heap) (h2 : 0 ≤ v.ext.tab.lim.min ∧ v.ext.tab.lim.min < 18446744073709551616) (h3 : 0 ≤ v.ext.tab.lim.max ∧ v.ext.tab.lim.max < 18446744073709551616)
    (h4 : 0 ≤ v.ext.mem.min ∧ v.ext.mem.min < 18446744073709551616) (h5 : 0 ≤ v.ext.mem.max ∧ v.ext.mem.max < 18446744073709551616) (h6 : I64 v.ext.glo.ty.heap) : Sim 200000 (ud1 v) (uzm v) :=
  (name_sim.bind (name_sim.bind (uzw h0 h1 h2 h3 h4 h5 h6))).mono (by decide)
end Go.Proofs.YthnmienjiangkaaGreatDoor.Pi.Q
namespace Go.Proofs.YthnmienjiangkaaGreatDoor.Pi.Q
open Go Go.Proofs.YthnmienjiangkaaGreatDoor.Pi
def rBind {α β : Type} (r : Nat → Rs α) (s : α → Nat → Rs β) (p : Nat) : Rs β := match r p with | .ok v q => s v q | .err a w => .err a w
def rPure {α : Type} (v : α) (p : Nat) : Rs α := .ok v p
def Ends {α : Type} (b : List UInt8) (r : Nat → Rs α) : Prop := ∀ p v q, p ≤ b.length → r p = .ok v q → q ≤ b.length
theorem u0d {α : Type} {b : List UInt8} {v : α} : Ends b (rPure v) := fun p u q hp h => by
  simp only [rPure, Rs.ok.injEq] at h
  omega
theorem u0l {α β : Type} {b : List UInt8} {r : Nat → Rs α} {s : α → Nat → Rs β} (hr : Ends b r) (hs : ∀ v, Ends b (s v)) : Ends b (rBind r s) := fun p v q hp h => by
  unfold rBind at h
  cases h1 : r p with
  | ok u q1 => rw [h1] at h; exact hs u q1 v q (hr p u q1 hp h1) h
  | err a w => rw [h1] at h; cases h
theorem u4p {α : Type} {b : List UInt8} {c : Prop} [Decidable c] {r s : Nat → Rs α} (hr : Ends b r) (hs : Ends b s) : Ends b (fun p => if c then r p else s p) := fun p v q hp h => by
  by_cases hc : c
  · simp only [if_pos hc] at h; exact hr p v q hp h
  · simp only [if_neg hc] at h; exact hs p v q hp h
def rU64 (b : List UInt8) (p : Nat) : Rs Nat := rdU b 64 b.length p
theorem v012 {b : List UInt8} {p v q : Nat} (h : rU64 b p = .ok v q) : v < 2 ^ 64 ∧ q ≤ b.length := by
  have := uoz (by decide) 10 0 0 p (by omega) (by decide) v q h
  exact ⟨this.1, this.2.2⟩
def rNum (w : Bool) (b : List UInt8) (p : Nat) : Rs Nat := if w then rU64 b p else rU32 b p
theorem ukr {w : Bool} {b : List UInt8} : Ends b (rNum w b) := fun p v q hp h => by
  cases w with
  | false => exact (udj h).2.2
  | true => exact (v012 h).2
def rMaxi (w h : Bool) (b : List UInt8) (mn : Nat) (p : Nat) : Rs LT := if h then (match rNum w b p with | .ok mx q => .ok ⟨w, mn, mx, true⟩ q | .err a e => .err a e) else .ok ⟨w, mn, 0, false⟩ p
def rLim2 (w h : Bool) (b : List UInt8) (p : Nat) : Rs LT := match rNum w b p with | .ok mn q => rMaxi w h b mn q | .err a e => .err a e
def ua4 (b : List UInt8) (p : Nat) : Rs LT :=
  match rSmall b 5 p with
  | .ok x q => if 1 < x ∧ x < 4 then .err p 4 else rLim2 (decide (1 < x)) (x % 2 == 1) b q
  | .err a e => .err a e
theorem uw3 {w h : Bool} {b : List UInt8} {mn : Nat} : Ends b (rMaxi w h b mn) := fun p v q hp hr => by
  unfold rMaxi at hr
  cases h with
  | false => simp only [Bool.false_eq_true, if_false, Rs.ok.injEq] at hr; omega
  | true =>
    simp only [if_true] at hr
    cases h1 : rNum w b p with
    | ok mx q1 => rw [h1] at hr; simp only [Rs.ok.injEq] at hr; have := ukr p mx q1 hp h1; omega
    | err a e => rw [h1] at hr; cases hr
theorem uxe {w h : Bool} {b : List UInt8} : Ends b (rLim2 w h b) := fun p v q hp hr => by
  unfold rLim2 at hr
  cases h1 : rNum w b p with
  | ok mn q1 => rw [h1] at hr; exact uw3 q1 v q (ukr p mn q1 hp h1) hr
  | err a e => rw [h1] at hr; cases hr
theorem u2b {most : Nat} {b : List UInt8} : Ends b (rSmall b most) := fun p v q hp h => (ui3 h).1
theorem u2h {b : List UInt8} : Ends b (ua4 b) := fun p v q hp h => by
  unfold ua4 at h
  cases h1 : rSmall b 5 p with
  | ok x q1 =>
    rw [h1] at h
    dsimp only at h
    split at h
    · cases h
    · exact uxe q1 v q (u2b p x q1 hp h1) h
  | err a e => rw [h1] at h; cases h
def rTable (b : List UInt8) : Nat → Rs TB := rBind (rRef b) fun v => rBind (ua4 b) fun l => rPure ⟨v, l⟩
def uoj (b : List UInt8) : Nat → Rs GO := rBind (rVal b) fun v => rBind (rSmall b 1) fun n => rPure ⟨v, n == 1⟩
def rTag (b : List UInt8) : Nat → Rs Int := rBind (rSmall b 0) fun _ => rIndex b
def rNm (b : List UInt8) (p : Nat) : Rs (List UInt8) := rName b b.length p
abbrev zLT : LT := ⟨false, 0, 0, false⟩
abbrev zTB : TB := ⟨⟨0, false, 0⟩, ⟨false, 0, 0, false⟩⟩
abbrev zGO : GO := ⟨⟨0, false, 0⟩, false⟩
def rExtK (b : List UInt8) (k : Int) (p : Nat) : Rs XT :=
  if k = 0 then rBind (rIndex b) (fun n => rPure ⟨k, n, zTB, zLT, zGO⟩) p
  else if k = 1 then rBind (rTable b) (fun v => rPure ⟨k, 0, v, zLT, zGO⟩) p
  else if k = 2 then rBind (ua4 b) (fun v => rPure ⟨k, 0, zTB, v, zGO⟩) p
  else if k = 3 then rBind (uoj b) (fun v => rPure ⟨k, 0, zTB, zLT, v⟩) p
  else if k = 4 then rBind (rTag b) (fun n => rPure ⟨k, n, zTB, zLT, zGO⟩) p
  else rPure ⟨k, 0, zTB, zLT, zGO⟩ p
def rExt (b : List UInt8) : Nat → Rs XT := rBind (rSmall b 4) fun k => rExtK b (IntKind.i64.wrap (k : Int))
def ujx (b : List UInt8) : Nat → Rs IM := rBind (rNm b) fun m => rBind (rNm b) fun n => rBind (rExt b) fun x => rPure ⟨⟨m.toArray⟩, ⟨n.toArray⟩, x⟩
theorem u8h {b : List UInt8} : Ends b (rNm b) := fun p v q hp h => by
  unfold rNm rName at h
  cases hr : rdU b 32 b.length p with
  | err a w => rw [hr] at h; cases h
  | ok n q1 =>
    have := udj hr
    rw [hr] at h
    dsimp only at h
    split at h
    · cases h
    · split at h
      · cases h
      · split at h
        · cases h
        · simp only [Rs.ok.injEq] at h
          omega
theorem udr {b : List UInt8} : Ends b (rRef b) := fun p v q hp h => uvy h
theorem udt {b : List UInt8} : Ends b (rVal b) := fun p v q hp h => ukm h
theorem u4y {b : List UInt8} : Ends b (rIndex b) := fun p v q hp h => uhy h
theorem u6e {b : List UInt8} : Ends b (rTable b) := u0l udr fun _ => u0l u2h fun _ => u0d
theorem u3z {b : List UInt8} : Ends b (uoj b) := u0l udt fun _ => u0l u2b fun _ => u0d
theorem u6o {b : List UInt8} : Ends b (rTag b) := u0l u2b fun _ => u4y
theorem ub7 {b : List UInt8} {k : Int} : Ends b (rExtK b k) :=
  u4p (u0l u4y fun _ => u0d) (u4p (u0l u6e fun _ => u0d) (u4p (u0l u2h fun _ => u0d)
    (u4p (u0l u3z fun _ => u0d) (u4p (u0l u6o fun _ => u0d) u0d))))
theorem ue1 {b : List UInt8} : Ends b (rExt b) := u0l u2b fun _ => ub7
theorem uci {b : List UInt8} : Ends b (ujx b) := u0l u8h fun _ => u0l u8h fun _ => u0l ue1 fun _ => u0d
end Go.Proofs.YthnmienjiangkaaGreatDoor.Pi.Q
namespace Go.Proofs.YthnmienjiangkaaGreatDoor.Pi.Q
open Go Go.Proofs.YthnmienjiangkaaGreatDoor.Pi
attribute [local congr] ite_congr
theorem uto {H : Heap} {b : List UInt8} {z : Bool} {p e : Nat} (he : e ≤ b.length) (hb : b.length < 2 ^ 61) :
    run (C uds [.agg [BS z b, .int .i64 p, .int .i64 e]]) H = some (.ok (retU (rdU b 64 e p)) H) := by
  rw [utk]
  have h := ub2 (H := hadd H [.cells [BS z b, .int .i64 p, .int .i64 e]]) (z := z) (p := p) (B := 64) he (by omega) (.inr rfl)
  have h : run (C u1i [.agg [BS z b, .int .i64 p, .int .i64 e], .int .i64 64]) (hadd H [.cells [BS z b, .int .i64 p, .int .i64 e]]) = _ := h
  cases hr : rdU b 64 e p <;> rw [hr] at h <;> simp only [retU] at h ⊢ <;>
    simp +contextual -dsimp (disch := omega) only [↓goDown, goUp, cr, simprocAttr, h]
theorem ut6 {H : Heap} {b : List UInt8} {z : Bool} {p e : Nat} (he : e ≤ b.length) (hb : b.length < 2 ^ 61) (hp : p ≤ e) :
    run (C ugg [BS z b, .int .i64 p, .int .i64 e]) H = some (.ok (retU (rdU b 64 e p)) H) := by
  have h1 : run (C u3l [BS z b, .int .i64 p, .int .i64 e, .fn uds [] []]) H = some (.ok (retU (rdU b 64 e p)) H) := by
    rw [u8j]
    have h := uto (H := hadd H [.cells [BS z b, .int .i64 p, .int .i64 e]]) (z := z) (p := p) he hb
    cases hr : rdU b 64 e p <;> rw [hr] at h <;> simp only [retU] at h ⊢ <;>
      simp +contextual -dsimp (disch := omega) only [↓goDown, goUp, cr, simprocAttr, h, ud9 he hp]
  rw [usj]
  cases hr : rdU b 64 e p <;> rw [hr] at h1 <;> simp only [retU] at h1 ⊢ <;>
    simp +contextual -dsimp (disch := omega) only [↓goDown, goUp, cr, simprocAttr, h1]
theorem ut0 {H : Heap} {b : List UInt8} {z : Bool} {c p q : Nat} {v : Nat} (hH : hget H c = some (curB z b p)) :
    run (C u3u [.ptr c 0, .int .u64 v, .int .i64 q, .int .i64 0]) H = some (.ok (.int .u64 v) (hset H c (curB z b q))) := by
  have hid := get_lt hH
  unfold curB at hH
  rw [u85]
  simp +contextual -dsimp (disch := omega) only [↓goDown, goUp, cr, simprocAttr, hH, u9m]
  all_goals rfl
theorem upc {H : Heap} {r v : PV} {q e : Nat} (he : e ≠ 0) :
    run (C u3u [r, v, .int .i64 q, .int .i64 e]) H = some (.pan (flt q e) H) := by
  rw [u85]
  have c0 : ¬ (e : Int) = 0 := by omega
  simp +contextual -dsimp (disch := omega) only [↓goDown, goUp, cr, simprocAttr, c0, u5i]
  all_goals rfl
theorem u64_is {H : Heap} {b : List UInt8} {z : Bool} {c p : Nat} (hH : hget H c = some (curB z b p)) (hb : b.length < 2 ^ 61) (hp : p ≤ b.length) :
    run (C u6y [.ptr c 0]) H = outC z b c H p (fun x : Nat => .int .u64 x) (rU64 b p) := by
  have hid := get_lt hH
  have hset := u1g hH
  have h1 := ut6 (H := H) (b := b) (z := z) (p := p) (Nat.le_refl _) hb hp
  have g1 := fun (q v : Nat) => ut0 (q := q) (v := v) hH
  rw [ud6]
  unfold rU64
  unfold curB at hH
  cases hr : rdU b 64 b.length p with
  | ok v q =>
    rw [hr] at h1
    simp only [retU] at h1
    simp only [outC]
    simp +contextual -dsimp (disch := omega) only [↓goDown, goUp, cr, simprocAttr, hH, h1, g1, List.length_map]
  | err a w =>
    rw [hr] at h1
    simp only [retU] at h1
    simp only [outC, hset]
    have g2 := fun (u : PV) => upc (H := H) (r := .ptr c 0) (v := u) (q := a) (uk4 hr)
    simp +contextual -dsimp (disch := omega) only [↓goDown, goUp, cr, simprocAttr, hH, h1, g2, List.length_map]
    all_goals rfl
theorem v009 {H : Heap} {b : List UInt8} {z : Bool} {c p l u : Nat} {w : Bool} {m1 m2 m3 : PV} (hH : hget H c = some (curB z b p)) (hl : hget H l = some (.cells [.bool w, m1, m2, m3])) (hu : hget H u = some (.cells [.ptr c 0])) (hb : b.length < 2 ^ 61) (hp : p ≤ b.length) :
    run (C u0j [.ptr l 0, .ptr u 0]) H = outC z b c H p (fun x : Nat => .int .u64 x) (rNum w b p) := by
  have h32 := u32_is hH hb hp
  have h64 := u64_is hH hb hp
  rw [u9p]
  unfold rNum
  cases w with
  | true =>
    simp only [if_true]
    cases hr : rU64 b p <;> rw [hr] at h64 <;> simp only [outC] at h64 ⊢ <;>
      simp +contextual -dsimp (disch := omega) only [↓goDown, goUp, cr, simprocAttr, hl, hu, h64, u10]
  | false =>
    simp only [Bool.false_eq_true, if_false]
    cases hr : rU32 b p with
    | ok n q =>
      have hn := (uan hr).2
      rw [hr] at h32
      simp only [outC] at h32 ⊢
      simp +contextual -dsimp (disch := omega) only [↓goDown, goUp, cr, simprocAttr, hl, hu, h32]
    | err a w =>
      rw [hr] at h32
      simp only [outC] at h32 ⊢
      simp +contextual -dsimp (disch := omega) only [↓goDown, goUp, cr, simprocAttr, hl, hu, h32, u10]
theorem utb {H : Heap} {b : List UInt8} {z : Bool} {c q x : Nat} {w h : Bool} (hx : (x = 0 ∧ w = false ∧ h = false) ∨ (x = 1 ∧ w = false ∧ h = true) ∨ (x = 4 ∧ w = true ∧ h = false) ∨ (x = 5 ∧ w = true ∧ h = true))
    (hid : c < H.length) (hb : b.length < 2 ^ 61) (hq : q ≤ b.length) :
    ∃ q2, truncR H (run (u2k (.ptr H.length 0) (.ptr (H.length + 1) 0) (.int .u8 x)) (hadd (Pi.hset H c (curB z b q)) [.cells [.ptr c 0], .cells [.bool false, .int .u64 0, .int .u64 0, .bool false]])) = outC z b c H q2 encLT (rLim2 w h b q) := by
  have hH1 : ∀ u L, hget (hadd (Pi.hset H c (curB z b u)) L) c = some (curB z b u) := fun u L => by rw [u5a (by rw [u71]; exact hid)]; exact u4z hid
  have so : ∀ u v L, Pi.hset (hadd (Pi.hset H c (curB z b v)) L) c (curB z b u) = hadd (Pi.hset H c (curB z b u)) L := fun u v L => by rw [u7v hid, set_set]
  have hn : ∀ w h u (m1 : PV), u ≤ b.length → run (C u0j [.ptr (H.length + 2) 0, .ptr H.length 0]) (hadd (Pi.hset H c (curB z b u)) [.cells [.ptr c 0], .cells [.bool false, .int .u64 0, .int .u64 0, .bool false], .cells [.bool w, m1, .int .u64 0, .bool h]]) = outC z b c (hadd (Pi.hset H c (curB z b u)) [.cells [.ptr c 0], .cells [.bool false, .int .u64 0, .int .u64 0, .bool false], .cells [.bool w, m1, .int .u64 0, .bool h]]) u (fun x : Nat => .int .u64 x) (rNum w b u) :=
    fun w h u m1 hu => v009 (hH1 u _) (by rw [udp]; rfl) (by rw [udq]; rfl) hb hu
  have k1 : run (mf u0j [] [.ptr (H.length + 2) 0, .ptr H.length 0]) = fun K => some (.ok (.fn u0j [] [.ptr (H.length + 2) 0, .ptr H.length 0]) K) := by
    funext K; rw [run_mf]; rfl
  have k2 : ∀ K, run (mf u0j [] [.ptr (H.length + 2) 0, .ptr H.length 0]) K = some (.ok (.fn u0j [] [.ptr (H.length + 2) 0, .ptr H.length 0]) K) := fun K => congrFun k1 K
  have k3 : strip (.fn u0j [] [.ptr (H.length + 2) 0, .ptr H.length 0]) = .fn u0j [] [.ptr (H.length + 2) 0, .ptr H.length 0] := rfl
  have a0 : ∀ K, run (bi .and .none (.int .u8 0) (.int .u8 1)) K = some (.ok (.int .u8 0) K) := fun K => rfl
  have a1 : ∀ K, run (bi .and .none (.int .u8 1) (.int .u8 1)) K = some (.ok (.int .u8 1) K) := fun K => rfl
  have a4 : ∀ K, run (bi .and .none (.int .u8 4) (.int .u8 1)) K = some (.ok (.int .u8 0) K) := fun K => rfl
  have a5 : ∀ K, run (bi .and .none (.int .u8 5) (.int .u8 1)) K = some (.ok (.int .u8 1) K) := fun K => rfl
  have g0 : ∀ K, run (bi .gtr .none (.int .u8 0) (.int .u8 1)) K = some (.ok (.bool false) K) := fun K => rfl
  have g1 : ∀ K, run (bi .gtr .none (.int .u8 1) (.int .u8 1)) K = some (.ok (.bool false) K) := fun K => rfl
  have g4 : ∀ K, run (bi .gtr .none (.int .u8 4) (.int .u8 1)) K = some (.ok (.bool true) K) := fun K => rfl
  have g5 : ∀ K, run (bi .gtr .none (.int .u8 5) (.int .u8 1)) K = some (.ok (.bool true) K) := fun K => rfl
  have h1 := hn w h q (.int .u64 0) hq
  rw [u7y]
  unfold rLim2
  cases hr : rNum w b q with
  | err a e =>
    refine ⟨q, ?_⟩
    rw [hr] at h1
    simp only [outC, so] at h1 ⊢
    rcases hx with ⟨rfl, rfl, rfl⟩ | ⟨rfl, rfl, rfl⟩ | ⟨rfl, rfl, rfl⟩ | ⟨rfl, rfl, rfl⟩ <;>
      simp +contextual -dsimp (disch := omega) only [↓goDown, goUp, cr, simprocAttr, a0, a1, a4, a5, g0, g1, g4, g5, k2, k3, u6s, h1, u10]
  | ok mn q1 =>
    have hq1 := ukr q mn q1 hq hr
    have h2 := hn w h q1 (.int .u64 mn) hq1
    rw [hr] at h1
    simp only [outC, so] at h1 ⊢
    unfold rMaxi
    cases h with
    | false =>
      refine ⟨q1, ?_⟩
      simp only [Bool.false_eq_true, if_false, outC]
      rcases hx with ⟨rfl, rfl, hh⟩ | ⟨rfl, rfl, hh⟩ | ⟨rfl, rfl, hh⟩ | ⟨rfl, rfl, hh⟩ <;> first | cases hh | skip
      all_goals simp +contextual -dsimp (disch := omega) only [↓goDown, goUp, cr, simprocAttr, a0, a1, a4, a5, g0, g1, g4, g5, k2, k3, u6s, h1, u2c, u4k]
      all_goals rfl
    | true =>
      simp only [if_true]
      cases hr2 : rNum w b q1 with
      | err a e =>
        refine ⟨q1, ?_⟩
        rw [hr2] at h2
        simp only [outC, so] at h2 ⊢
        rcases hx with ⟨rfl, rfl, hh⟩ | ⟨rfl, rfl, hh⟩ | ⟨rfl, rfl, hh⟩ | ⟨rfl, rfl, hh⟩ <;> first | cases hh | skip
        all_goals simp +contextual -dsimp (disch := omega) only [↓goDown, goUp, cr, simprocAttr, a0, a1, a4, a5, g0, g1, g4, g5, k2, k3, u6s, h1, h2, u2c, u10]
      | ok mx q2 =>
        refine ⟨q2, ?_⟩
        rw [hr2] at h2
        simp only [outC, so] at h2 ⊢
        rcases hx with ⟨rfl, rfl, hh⟩ | ⟨rfl, rfl, hh⟩ | ⟨rfl, rfl, hh⟩ | ⟨rfl, rfl, hh⟩ <;> first | cases hh | skip
        all_goals simp +contextual -dsimp (disch := omega) only [↓goDown, goUp, cr, simprocAttr, a0, a1, a4, a5, g0, g1, g4, g5, k2, k3, u6s, h1, h2, u2c, u4k]
        all_goals rfl
theorem uvz {H : Heap} {b : List UInt8} {z : Bool} {c p : Nat} (hH : hget H c = some (curB z b p)) (hb : b.length < 2 ^ 61) (hp : p ≤ b.length) :
    ∃ q, run (C u1l [.ptr c 0]) H = outC z b c H q encLT (ua4 b p) := by
  have hid := get_lt hH
  have hset := u1g hH
  have hH1 : ∀ L, hget (hadd H L) c = some (curB z b p) := fun L => by rw [u5a hid]; exact hH
  have so : ∀ u L, Pi.hset (hadd H L) c (curB z b u) = hadd (Pi.hset H c (curB z b u)) L := fun u L => by rw [u9y hid]
  have hs : ∀ L, run (C u0c [.ptr c 0, .int .u8 5]) (hadd H L) = outC z b c (hadd H L) p (fun n : Nat => .int .u8 n) (rSmall b 5 p) := fun L => ul7 (hH1 L) hb hp
  have hid1 : c < List.length H + 1 := by omega
  have hid2 : c < List.length H + 2 := by omega
  rw [uac]
  unfold ua4
  cases hr : rSmall b 5 p with
  | err a e =>
    refine ⟨p, ?_⟩
    simp only [hr, outC, so] at hs ⊢
    simp +contextual -dsimp (disch := omega) only [↓goDown, goUp, cr, simprocAttr, hs, hid1, hid2, if_true, u10]
  | ok x q =>
    obtain ⟨hx, hqp⟩ := uze hr
    have hq := (ui3 hr).1
    simp only [hr, outC, so] at hs
    dsimp only
    have hg : ∀ L, hget (hadd (Pi.hset H c (curB z b q)) L) c = some (.cells [BS z b, .int .i64 q]) := fun L => by rw [u5a (by rw [u71]; exact hid)]; exact u4z hid
    by_cases h23 : 1 < x ∧ x < 4
    · refine ⟨q, ?_⟩
      rw [if_pos h23]
      have c1 : ((1 : Int) < x) = True := eq_true (by omega)
      have c2 : ((x : Int) < 4) = True := eq_true (by omega)
      have e1 : (q : Int) - 1 = p := by omega
      simp only [outC]
      simp +contextual -dsimp (disch := omega) only [↓goDown, goUp, cr, simprocAttr, hs, c1, c2, hg, e1, hid1, hid2, if_true, u5i]
      all_goals rfl
    · rw [if_neg h23]
      have hxx : (x = 0 ∨ x = 1) ∨ (x = 4 ∨ x = 5) := by omega
      obtain ⟨q2, he⟩ := utb (H := H) (c := c) (z := z) (x := x) (w := decide (1 < x)) (h := (x % 2 == 1)) (by rcases hxx with (rfl | rfl) | (rfl | rfl) <;> decide) hid hb hq
      refine ⟨q2, ?_⟩
      rw [← he]
      rcases hxx with hxx | hxx
      · have c1 : ((1 : Int) < x) = False := eq_false (by omega)
        simp +contextual -dsimp (disch := omega) only [↓goDown, goUp, cr, simprocAttr, hs, c1, hid1, hid2, if_true]
      · have c1 : ((1 : Int) < x) = True := eq_true (by omega)
        have c2 : ((x : Int) < 4) = False := eq_false (by omega)
        simp +contextual -dsimp (disch := omega) only [↓goDown, goUp, cr, simprocAttr, hs, c1, c2, hid1, hid2, if_true]
theorem usv {H : Heap} {b : List UInt8} {z : Bool} {c p q : Nat} {v : ByteArray} (hH : hget H c = some (curB z b p)) :
    run (C u3v [.ptr c 0, .str v, .int .i64 q, .int .i64 0]) H = some (.ok (.str v) (hset H c (curB z b q))) := by
  have hid := get_lt hH
  unfold curB at hH
  rw [u8o]
  simp +contextual -dsimp (disch := omega) only [↓goDown, goUp, cr, simprocAttr, hH, u9l]
  all_goals rfl
theorem uo2 {H : Heap} {r v : PV} {q e : Nat} (he : e ≠ 0) :
    run (C u3v [r, v, .int .i64 q, .int .i64 e]) H = some (.pan (flt q e) H) := by
  rw [u8o]
  have c0 : ¬ (e : Int) = 0 := by omega
  simp +contextual -dsimp (disch := omega) only [↓goDown, goUp, cr, simprocAttr, c0, u5i]
  all_goals rfl
theorem nm_is {H : Heap} {b : List UInt8} {z : Bool} {c p : Nat} (hH : hget H c = some (curB z b p)) (hb : b.length < 2 ^ 60) (hp : p ≤ b.length) :
    ∃ q, run (C u3c [.ptr c 0]) H = outC z b c H q (fun u : List UInt8 => .str ⟨u.toArray⟩) (rNm b p) := by
  have hid := get_lt hH
  have hset := u1g hH
  have h1 := uzy (H := H) (z := z) hb (at_ := (p : Int))
  unfold nameP at h1
  rw [if_neg (by omega), Int.toNat_natCast] at h1
  have g1 := fun (q : Nat) (v : ByteArray) => usv (q := q) (v := v) hH
  rw [ubt]
  refine ⟨p, ?_⟩
  unfold rNm
  unfold curB at hH
  cases hr : rName b b.length p with
  | ok v q =>
    rw [hr] at h1
    simp only [tupN, SB] at h1
    simp only [outC]
    simp +contextual -dsimp (disch := omega) only [↓goDown, goUp, cr, simprocAttr, hH, h1, g1, List.length_map]
  | err a w =>
    rw [hr] at h1
    simp only [tupN] at h1
    simp only [outC, hset]
    have g2 := fun (u : PV) => uo2 (H := H) (r := .ptr c 0) (v := u) (q := a) (unm hr)
    simp +contextual -dsimp (disch := omega) only [↓goDown, goUp, cr, simprocAttr, hH, h1, g2, List.length_map]
    all_goals rfl
end Go.Proofs.YthnmienjiangkaaGreatDoor.Pi.Q
namespace Go.Proofs.YthnmienjiangkaaGreatDoor.Pi.Q
open Go Go.Proofs.YthnmienjiangkaaGreatDoor.Pi
attribute [local congr] ite_congr
variable {c : Nat} {H : Heap} {L : List Box} {b : List UInt8} {z : Bool} {α β : Type}
abbrev Pl (b : List UInt8) := {p : Nat // p ≤ b.length}
def cB (z : Bool) {b : List UInt8} (s : Pl b) : Box := curB z b s.1
def kRd {b : List UInt8} {r : Nat → Rs α} (hr : Ends b r) (s : Pl b) : Res (Pl b) α :=
  match h : r s.1 with
  | .ok v q => .ok v ⟨q, hr _ _ _ s.2 h⟩
  | .err a w => .err u02 [(a : Int), (w : Int)]
theorem kRd_ok {r : Nat → Rs α} {hr : Ends b r} {s : Pl b} {v : α} {q : Nat} (h : r s.1 = .ok v q) : kRd hr s = .ok v ⟨q, hr _ _ _ s.2 h⟩ := by
  unfold kRd
  split
  · rename_i v' q' h'
    have := h'.symm.trans h
    simp only [Rs.ok.injEq] at this
    obtain ⟨rfl, rfl⟩ := this
    rfl
  · rename_i a w h'
    exact absurd (h'.symm.trans h) (by simp)
theorem uej {r : Nat → Rs α} {hr : Ends b r} {s : Pl b} {a w : Nat} (h : r s.1 = .err a w) : kRd hr s = .err u02 [(a : Int), (w : Int)] := by
  unfold kRd
  split
  · rename_i v' q' h'
    exact absurd (h'.symm.trans h) (by simp)
  · rename_i a' w' h'
    have := h'.symm.trans h
    simp only [Rs.err.injEq] at this
    obtain ⟨rfl, rfl⟩ := this
    rfl
theorem kRd_eq {r r' : Nat → Rs α} {hr : Ends b r} {hr' : Ends b r'} {s s' : Pl b} (h : r s.1 = r' s'.1) : kRd hr s = kRd hr' s' := by
  cases h1 : r' s'.1 with
  | ok v q => rw [kRd_ok h1, kRd_ok (h.trans h1)]
  | err a w => rw [uej h1, uej (h.trans h1)]
theorem u55 {r : Nat → Rs α} {g : α → Nat → Rs β} {hr : Ends b r} {hg : ∀ v, Ends b (g v)} {hb : Ends b (rBind r g)} {s : Pl b} : kRd hb s = (kRd hr s).bind fun v q => kRd (hg v) q := by
  cases h : r s.1 with
  | ok v q =>
    rw [kRd_ok h]
    show _ = kRd (hg v) ⟨q, _⟩
    refine kRd_eq ?_
    unfold rBind
    rw [h]
  | err a w =>
    rw [uej h]
    refine uej ?_
    unfold rBind
    rw [h]
theorem curK {m : M PV} {enc : α → PV} {r : Nat → Rs α} (hr : Ends b r) {s : Pl b} (h : ∀ H, hget H c = some (curB z b s.1) → ∃ q, run m H = outC z b c H q enc (r s.1)) (hc : c < List.length H) :
    runK c m (St H c (cB z s) L) = outK c H L (cB z) enc (kRd hr s) := by
  obtain ⟨q, hh⟩ := h (St H c (cB z s) L) (get_St hc)
  unfold runK
  rw [hh]
  cases h1 : r s.1 with
  | ok v q =>
    rw [kRd_ok h1]
    simp only [outC, set_St hc]
    rfl
  | err a w =>
    rw [uej h1]
    simp only [outC, udd, set_set, set_St hc]
    rfl
def outB (z : Bool) (b : List UInt8) (c : Nat) (H : Heap) (X : Box) (enc : α → PV) : Rs α → Option (Out PV)
  | .ok v p => some (.ok (enc v) (hset H c (curB z b p)))
  | .err p e => some (.pan (flt p e) (hset H c X))
theorem St_nil {x : Box} : St H c x [] = hset H c x := List.append_nil _
theorem v00m {m : M PV} {enc : α → PV} {r : Nat → Rs α} (hr : Ends b r) {p : Nat} (hp : p ≤ b.length) (hH : hget H c = some (curB z b p))
    (h : ∀ H, c < List.length H → runK c m (St H c (cB z ⟨p, hp⟩) []) = outK c H [] (cB z) enc (kRd hr ⟨p, hp⟩)) : ∃ X, run m H = outB z b c H X enc (r p) := by
  have hid := get_lt hH
  have hh := h H hid
  have hS : St H c (cB z ⟨p, hp⟩) [] = H := St_nil.trans (u1g hH)
  rw [hS] at hh
  cases h1 : r p with
  | ok v q =>
    rw [kRd_ok h1] at hh
    refine ⟨.dead, (umm hh).trans ?_⟩
    rw [St_nil]
    rfl
  | err a w =>
    rw [uej h1] at hh
    obtain ⟨X, hX⟩ := ujh hid hh
    refine ⟨X, hX.trans ?_⟩
    rw [St_nil]
    rfl
theorem refCK {s : Pl b} (hb : b.length < 2 ^ 60) (hc : c < List.length H) : runK c (C u2q [.ptr c 0]) (St H c (cB z s) L) = outK c H L (cB z) encV (kRd udr s) := curK udr (fun H hH => ref_is hH (by omega) s.2) hc
theorem valCK {s : Pl b} (hb : b.length < 2 ^ 60) (hc : c < List.length H) : runK c (C u0x [.ptr c 0]) (St H c (cB z s) L) = outK c H L (cB z) encV (kRd udt s) := curK udt (fun H hH => val_is hH (by omega) s.2) hc
theorem limCK {s : Pl b} (hb : b.length < 2 ^ 60) (hc : c < List.length H) : runK c (C u1l [.ptr c 0]) (St H c (cB z s) L) = outK c H L (cB z) encLT (kRd u2h s) := curK u2h (fun H hH => uvz hH (by omega) s.2) hc
theorem uv1 {s : Pl b} (hb : b.length < 2 ^ 60) (hc : c < List.length H) : runK c (C u11 [.ptr c 0]) (St H c (cB z s) L) = outK c H L (cB z) (fun n : Int => .int .i64 n) (kRd u4y s) := curK u4y (fun H hH => urx hH (by omega) s.2) hc
theorem uo1 {s : Pl b} {most : Nat} (hb : b.length < 2 ^ 60) (hc : c < List.length H) : runK c (C u0c [.ptr c 0, .int .u8 most]) (St H c (cB z s) L) = outK c H L (cB z) (fun n : Nat => .int .u8 n) (kRd (u2b (most := most)) s) := curK u2b (fun H hH => ⟨s.1, ul7 hH (by omega) s.2⟩) hc
theorem nmCK {s : Pl b} (hb : b.length < 2 ^ 60) (hc : c < List.length H) : runK c (C u3c [.ptr c 0]) (St H c (cB z s) L) = outK c H L (cB z) (fun u : List UInt8 => .str ⟨u.toArray⟩) (kRd u8h s) := curK u8h (fun H hH => nm_is hH hb s.2) hc
theorem uuh {v : VT} : encV v = .agg [.int .i64 v.num, .bool v.nul, .int .i64 v.heap] := nrfl rfl
theorem uwo {s : Pl b} : kRd u6e s = (kRd udr s).bind fun v s => (kRd u2h s).bind fun l s => .ok ⟨v, l⟩ s := by
  refine (u55 (hr := udr) (hg := fun v => u0l u2h fun l => u0d)).trans ?_
  congr 1; funext v s
  refine (u55 (hr := u2h) (hg := fun l => u0d)).trans ?_
  congr 1
theorem v00o {s : Pl b} (hb : b.length < 2 ^ 60) (hc : c < List.length H) : runK c (C u5v [.ptr c 0]) (St H c (cB z s) L) = outK c H L (cB z) encTB (kRd u6e s) := liftK (fun H hc => by
  have h1 := fun L (s : Pl b) => refCK (L := L) (s := s) (z := z) hb hc
  have h2 := fun L (s : Pl b) => limCK (L := L) (s := s) (z := z) hb hc
  rw [uaw, uwo]
  simp +contextual -dsimp (disch := omega) only [↓kDown, kUp, ↓goDown, goUp, cr, simprocAttr, h1, h2, uuh, u4k, u5k] <;> rfl) hc
theorem usf {s : Pl b} : kRd u3z s = (kRd udt s).bind fun v s => (kRd (u2b (most := 1)) s).bind fun n s => .ok ⟨v, n == 1⟩ s := by
  refine (u55 (hr := udt) (hg := fun v => u0l u2b fun l => u0d)).trans ?_
  congr 1; funext v s
  refine (u55 (hr := u2b) (hg := fun l => u0d)).trans ?_
  congr 1
theorem v00g {n : Nat} : ((n : Int) == 1) = (n == 1) := by rw [Bool.eq_iff_iff]; simp; omega
theorem uym {s : Pl b} (hb : b.length < 2 ^ 60) (hc : c < List.length H) : runK c (C u5h [.ptr c 0]) (St H c (cB z s) L) = outK c H L (cB z) encGO (kRd u3z s) := liftK (fun H hc => by
  have h1 := fun L (s : Pl b) => valCK (L := L) (s := s) (z := z) hb hc
  have h2 : ∀ L (s : Pl b), runK c (C u0c [.ptr c 0, .int .u8 1]) (St H c (cB z s) L) = _ := fun L (s : Pl b) => uo1 (L := L) (s := s) (most := 1) (z := z) hb hc
  rw [uad, usf]
  simp +contextual -dsimp (disch := omega) only [↓kDown, kUp, ↓goDown, goUp, cr, simprocAttr, h1, h2, uuh, u5l, v00g] <;> rfl) hc
theorem uzz {s : Pl b} : kRd u6o s = (kRd (u2b (most := 0)) s).bind fun n s => kRd u4y s := u55 (hr := u2b) (hg := fun _ => u4y)
theorem tagCK {s : Pl b} (hb : b.length < 2 ^ 60) (hc : c < List.length H) : runK c (C u6q [.ptr c 0]) (St H c (cB z s) L) = outK c H L (cB z) (fun n : Int => .int .i64 n) (kRd u6o s) := liftK (fun H hc => by
  have h1 := fun L (s : Pl b) => uv1 (L := L) (s := s) (z := z) hb hc
  have h2 : ∀ L (s : Pl b), runK c (C u0c [.ptr c 0, .int .u8 0]) (St H c (cB z s) L) = _ := fun L (s : Pl b) => uo1 (L := L) (s := s) (most := 0) (z := z) hb hc
  rw [uct, uzz]
  simp +contextual -dsimp (disch := omega) only [↓kDown, kUp, ↓goDown, goUp, cr, simprocAttr, h1, h2] <;> rfl) hc
theorem v00t {p : Prop} [Decidable p] {r r' : Nat → Rs α} {h : Ends b fun q => if p then r q else r' q} {hr : Ends b r} {hr' : Ends b r'} {s : Pl b} : kRd h s = if p then kRd hr s else kRd hr' s := by
  by_cases hp : p
  · rw [if_pos hp]; exact kRd_eq (if_pos hp)
  · rw [if_neg hp]; exact kRd_eq (if_neg hp)
theorem uyf {k : Int} {s : Pl b} : kRd (ub7 (k := k)) s =
    if k = 0 then (kRd u4y s).bind fun n s => .ok ⟨k, n, zTB, zLT, zGO⟩ s
    else if k = 1 then (kRd u6e s).bind fun v s => .ok ⟨k, 0, v, zLT, zGO⟩ s
    else if k = 2 then (kRd u2h s).bind fun v s => .ok ⟨k, 0, zTB, v, zGO⟩ s
    else if k = 3 then (kRd u3z s).bind fun v s => .ok ⟨k, 0, zTB, zLT, v⟩ s
    else if k = 4 then (kRd u6o s).bind fun n s => .ok ⟨k, n, zTB, zLT, zGO⟩ s
    else .ok ⟨k, 0, zTB, zLT, zGO⟩ s := by
  have h0 : ∀ {r r' : Nat → Rs XT} {c : Prop} [Decidable c] {h : Ends b fun q => if c then r q else r' q} (hr : Ends b r) (hr' : Ends b r'), kRd h s = if c then kRd hr s else kRd hr' s := fun hr hr' => v00t (hr := hr) (hr' := hr')
  refine (h0 (u0l u4y fun _ => u0d) (u4p (u0l u6e fun _ => u0d) (u4p (u0l u2h fun _ => u0d)
    (u4p (u0l u3z fun _ => u0d) (u4p (u0l u6o fun _ => u0d) u0d))))).trans ?_
  congr 1
  · exact u55 (hr := u4y) (hg := fun _ => u0d)
  refine (h0 (u0l u6e fun _ => u0d) (u4p (u0l u2h fun _ => u0d)
    (u4p (u0l u3z fun _ => u0d) (u4p (u0l u6o fun _ => u0d) u0d)))).trans ?_
  congr 1
  · exact u55 (hr := u6e) (hg := fun _ => u0d)
  refine (h0 (u0l u2h fun _ => u0d)
    (u4p (u0l u3z fun _ => u0d) (u4p (u0l u6o fun _ => u0d) u0d))).trans ?_
  congr 1
  · exact u55 (hr := u2h) (hg := fun _ => u0d)
  refine (h0 (u0l u3z fun _ => u0d) (u4p (u0l u6o fun _ => u0d) u0d)).trans ?_
  congr 1
  · exact u55 (hr := u3z) (hg := fun _ => u0d)
  refine (h0 (u0l u6o fun _ => u0d) u0d).trans ?_
  congr 1
  · exact u55 (hr := u6o) (hg := fun _ => u0d)
theorem ut4 {s : Pl b} : kRd uci s = (kRd u8h s).bind fun m s => (kRd u8h s).bind fun n s => (kRd (u2b (most := 4)) s).bind fun k s => (kRd (ub7 (k := IntKind.i64.wrap (k : Int))) s).bind fun x s => .ok ⟨⟨m.toArray⟩, ⟨n.toArray⟩, x⟩ s := by
  refine (u55 (hr := u8h) (hg := fun _ => u0l u8h fun _ => u0l ue1 fun _ => u0d)).trans ?_
  congr 1; funext m s
  refine (u55 (hr := u8h) (hg := fun _ => u0l ue1 fun _ => u0d)).trans ?_
  congr 1; funext n s
  refine (u55 (hr := ue1) (hg := fun _ => u0d)).trans ?_
  rw [show kRd ue1 s = (kRd (u2b (most := 4)) s).bind fun k s => kRd (ub7 (k := IntKind.i64.wrap (k : Int))) s from u55 (hr := u2b) (hg := fun _ => ub7)]
  cases kRd (u2b (most := 4)) s <;> rfl
theorem uyt {s : Pl b} (hb : b.length < 2 ^ 60) (hc : c < List.length H) : runK c (C u1m [.ptr c 0]) (St H c (cB z s) L) = outK c H L (cB z) encIM (kRd uci s) := liftK (fun H hc => by
  have h1 := fun L (s : Pl b) => nmCK (L := L) (s := s) (z := z) hb hc
  have h2 : ∀ L (s : Pl b), runK c (C u0c [.ptr c 0, .int .u8 4]) (St H c (cB z s) L) = _ := fun L (s : Pl b) => uo1 (L := L) (s := s) (most := 4) (z := z) hb hc
  have h3 := fun L (s : Pl b) => uv1 (L := L) (s := s) (z := z) hb hc
  have h4 := fun L (s : Pl b) => v00o (L := L) (s := s) (z := z) hb hc
  have h5 := fun L (s : Pl b) => limCK (L := L) (s := s) (z := z) hb hc
  have h6 := fun L (s : Pl b) => uym (L := L) (s := s) (z := z) hb hc
  have h7 := fun L (s : Pl b) => tagCK (L := L) (s := s) (z := z) hb hc
  rw [u9q, ut4]
  cases e1 : kRd u8h s with
  | err t l =>
    simp only [Res.bind]
    simp +contextual -dsimp (disch := omega) only [↓kDown, kUp, ↓goDown, goUp, cr, simprocAttr, h1, h2, h3, h4, h5, h6, h7, u3r, if_true, e1, u03, u5k, u4k, u5l, u5p]
    all_goals rfl
  | no =>
    simp only [Res.bind]
    simp +contextual -dsimp (disch := omega) only [↓kDown, kUp, ↓goDown, goUp, cr, simprocAttr, h1, h2, h3, h4, h5, h6, h7, u3r, if_true, e1, u03, u5k, u4k, u5l, u5p]
    all_goals rfl
  | ok m s1 =>
    simp only [Res.bind]
    cases e2 : kRd u8h s1 with
    | err t l =>
      simp +contextual -dsimp (disch := omega) only [↓kDown, kUp, ↓goDown, goUp, cr, simprocAttr, h1, h2, h3, h4, h5, h6, h7, u3r, if_true, e1, e2, u03, u5k, u4k, u5l, u5p]
      all_goals rfl
    | no =>
      simp +contextual -dsimp (disch := omega) only [↓kDown, kUp, ↓goDown, goUp, cr, simprocAttr, h1, h2, h3, h4, h5, h6, h7, u3r, if_true, e1, e2, u03, u5k, u4k, u5l, u5p]
      all_goals rfl
    | ok n s2 =>
      simp only
      cases e3 : kRd (u2b (most := 4)) s2 with
      | err t l =>
        simp +contextual -dsimp (disch := omega) only [↓kDown, kUp, ↓goDown, goUp, cr, simprocAttr, h1, h2, h3, h4, h5, h6, h7, u3r, if_true, e1, e2, e3, u03, u5k, u4k, u5l, u5p]
        all_goals rfl
      | no =>
        simp +contextual -dsimp (disch := omega) only [↓kDown, kUp, ↓goDown, goUp, cr, simprocAttr, h1, h2, h3, h4, h5, h6, h7, u3r, if_true, e1, e2, e3, u03, u5k, u4k, u5l, u5p]
        all_goals rfl
      | ok k s3 =>
        simp only
        rw [uyf]
        have hj : ∃ j, IntKind.i64.wrap (k : Int) = j := ⟨_, rfl⟩
        obtain ⟨j, hj⟩ := hj
        simp only [hj]
        by_cases c0 : j = 0
        · rw [if_pos c0]
          cases e4 : kRd u4y s3 <;> simp +contextual -dsimp (disch := omega) only [↓kDown, kUp, ↓goDown, goUp, cr, simprocAttr, h1, h2, h3, h4, h5, h6, h7, u3r, if_true, e1, e2, e3, hj, eq_true c0, e4, u03, u5k, u4k, u5l, u5p] <;> rfl
        by_cases c1 : j = 1
        · rw [if_neg c0, if_pos c1]
          cases e4 : kRd u6e s3 <;> simp +contextual -dsimp (disch := omega) only [↓kDown, kUp, ↓goDown, goUp, cr, simprocAttr, h1, h2, h3, h4, h5, h6, h7, u3r, if_true, e1, e2, e3, hj, eq_false c0, eq_true c1, e4, u03, u5k, u4k, u5l, u5p] <;> rfl
        by_cases c2 : j = 2
        · rw [if_neg c0, if_neg c1, if_pos c2]
          cases e4 : kRd u2h s3 <;> simp +contextual -dsimp (disch := omega) only [↓kDown, kUp, ↓goDown, goUp, cr, simprocAttr, h1, h2, h3, h4, h5, h6, h7, u3r, if_true, e1, e2, e3, hj, eq_false c0, eq_false c1, eq_true c2, e4, u03, u5k, u4k, u5l, u5p] <;> rfl
        by_cases c3 : j = 3
        · rw [if_neg c0, if_neg c1, if_neg c2, if_pos c3]
          cases e4 : kRd u3z s3 <;> simp +contextual -dsimp (disch := omega) only [↓kDown, kUp, ↓goDown, goUp, cr, simprocAttr, h1, h2, h3, h4, h5, h6, h7, u3r, if_true, e1, e2, e3, hj, eq_false c0, eq_false c1, eq_false c2, eq_true c3, e4, u03, u5k, u4k, u5l, u5p] <;> rfl
        by_cases c4 : j = 4
        · rw [if_neg c0, if_neg c1, if_neg c2, if_neg c3, if_pos c4]
          cases e4 : kRd u6o s3 <;> simp +contextual -dsimp (disch := omega) only [↓kDown, kUp, ↓goDown, goUp, cr, simprocAttr, h1, h2, h3, h4, h5, h6, h7, u3r, if_true, e1, e2, e3, hj, eq_false c0, eq_false c1, eq_false c2, eq_false c3, eq_true c4, e4, u03, u5k, u4k, u5l, u5p] <;> rfl
        · rw [if_neg c0, if_neg c1, if_neg c2, if_neg c3, if_neg c4]
          simp +contextual -dsimp (disch := omega) only [↓kDown, kUp, ↓goDown, goUp, cr, simprocAttr, h1, h2, h3, h4, h5, h6, h7, u3r, if_true, e1, e2, e3, hj, eq_false c0, eq_false c1, eq_false c2, eq_false c3, eq_false c4, u03, u5k, u4k, u5l, u5p]
          all_goals rfl) hc
end Go.Proofs.YthnmienjiangkaaGreatDoor.Pi.Q
namespace Go.Proofs.YthnmienjiangkaaGreatDoor.Pi.Q
open Go Go.Proofs.YthnmienjiangkaaGreatDoor.Pi
attribute [local congr] ite_congr
variable {c : Nat} {H : Heap} {L : List Box} {b : List UInt8} {z : Bool} {α β : Type}
structure ES (b : List UInt8) where
  p : Nat
  pl : Nat
  er : Nat
  ok : er = 0 → pl = 0 ∧ p ≤ b.length
def tX (v0 : α) (x : Nat → α × Nat) {r : Nat → Rs α} (he : Ends b r) (hw : Errs r) (t : ES b) : α × ES b :=
  if h : t.er = 0 then
    match hr : r t.p with
    | .ok v q => (v, ⟨q, 0, 0, fun _ => ⟨rfl, he _ _ _ (t.ok h).2 hr⟩⟩)
    | .err a w => ((x t.p).1, ⟨(x t.p).2, a, w, fun h0 => absurd h0 (hw _ _ _ hr)⟩)
  else (v0, t)
end Go.Proofs.YthnmienjiangkaaGreatDoor.Pi.Q
namespace Go.Proofs.YthnmienjiangkaaGreatDoor.Pi.Q
open Go Go.Proofs.YthnmienjiangkaaGreatDoor.Pi
attribute [local congr] ite_congr
abbrev zXT : XT := ⟨0, 0, zTB, zLT, zGO⟩
abbrev zIM : IM := ⟨⟨#[]⟩, ⟨#[]⟩, zXT⟩
theorem usl {b : List UInt8} {z : Bool} (hb : b.length < 2 ^ 61) {one : PV} {r : Nat → Rs IM}
    (hone : ∀ H c p, hget H c = some (curB z b p) → p ≤ b.length → ∃ X, run (callV P C (strip one) [.ptr c 0]) H = outB z b c H X encIM (r p)) {H : Heap} {at_ : Int} :
    run (C u35 [BS z b, .int .i64 at_, one]) H = some (.ok (atPl at_ b (encIM zIM) (outR encIM (encIM zIM) (r at_.toNat))) H) := by
  rw [u9j]
  unfold atPl
  by_cases h1 : at_ < 0
  · rw [if_pos (.inl h1)]
    simp +contextual -dsimp (disch := omega) only [↓goDown, goUp, cr, simprocAttr, eq_true h1, encIM]
  · by_cases h2 : (b.length : Int) < at_
    · rw [if_pos (.inr h2)]
      simp +contextual -dsimp (disch := omega) only [↓goDown, goUp, cr, simprocAttr, h1, h2, List.length_map, encIM]
    · rw [if_neg (by omega)]
      obtain ⟨p, rfl⟩ := Int.eq_ofNat_of_zero_le (show 0 ≤ at_ by omega)
      rw [Int.toNat_natCast]
      obtain ⟨X, hk⟩ := hone (hadd H [.cells [.str ⟨#[]⟩, .str ⟨#[]⟩, .int .i64 0, .int .i64 0, .int .i64 0, .bool false, .int .i64 0, .bool false, .int .u64 0, .int .u64 0, .bool false, .bool false, .int .u64 0, .int .u64 0, .bool false, .int .i64 0, .bool false, .int .i64 0, .bool false], .cells [.int .i64 0], .cells [.int .i64 0], .cells [.str ⟨#[]⟩, .str ⟨#[]⟩, .int .i64 0, .int .i64 0, .int .i64 0, .bool false, .int .i64 0, .bool false, .int .u64 0, .int .u64 0, .bool false, .bool false, .int .u64 0, .int .u64 0, .bool false, .int .i64 0, .bool false, .int .i64 0, .bool false], curB z b p]) (H.length + 4) p (by rw [ual]; rfl) (by omega)
      cases hr : r p <;> rw [hr] at hk <;> simp only [outB, outR, ue5] at hk ⊢ <;> unfold curB at hk <;>
        simp +contextual -dsimp (disch := omega) only [↓goDown, goUp, cr, simprocAttr, h1, h2, List.length_map, run_mf, hk, flt, u8g, u8m, run_ta, bi_if, bi_ifn, cutL, uer, Nat.reduceBeqDiff, encIM]
theorem usn {H : Heap} {b : List UInt8} {z : Bool} (hb : b.length < 2 ^ 60) {at_ : Int} :
    run (C u95 [BS z b, .int .i64 at_]) H = some (.ok (atPl at_ b (encIM zIM) (outR encIM (encIM zIM) (ujx b at_.toNat))) H) := by
  have h := fun L => usl (z := z) (show b.length < 2 ^ 61 by omega) (one := .fn u1m [] []) (r := ujx b) (fun H c p hH hp => v00m uci hp hH fun H hc => uyt hb hc) (H := hadd H L) (at_ := at_)
  rw [ugz]
  revert h
  refine uim (fun t => (∀ L, run (C u35 [BS z b, .int .i64 at_, .fn u1m [] []]) (hadd H L) = some (.ok t (hadd H L))) → _ = some (Out.ok t H)) ?_ ?_ ?_ <;> intros <;> rename_i h <;> unfold encIM at h ⊢ <;> 
    (have h0 := h []; rw [show hadd H [] = H from List.append_nil H] at h0; simp +contextual -dsimp (disch := omega) only [↓goDown, goUp, cr, simprocAttr, h, h0])
end Go.Proofs.YthnmienjiangkaaGreatDoor.Pi.Q
namespace Go.Proofs.YthnmienjiangkaaGreatDoor.Pi.Q
open Go Go.Proofs.YthnmienjiangkaaGreatDoor.Pi
attribute [local congr] ite_congr
variable {c : Nat} {H : Heap} {L : List Box} {b : List UInt8} {z : Bool} {α β : Type}
abbrev z4 : Box := .cells [.bool false, .int .u64 0, .int .u64 0, .bool false]
end Go.Proofs.YthnmienjiangkaaGreatDoor.Pi.Q
namespace Go.Proofs.YthnmienjiangkaaGreatDoor.Pi.Q
open Go Go.Proofs.YthnmienjiangkaaGreatDoor.Pi
attribute [local congr] ite_congr
theorem uxp {ks : List SK} {x : List PV} (h : Like ks x x) {H : Heap} : run (bi .neq (.struct ks) (.agg x) (.agg x)) H = some (.ok (.bool false) H) := uyc h (p := True) (by simp)
theorem v011 {v w : IM} : Like [.str, .str, .int, .int, .int, .bool, .int, .bool, .int, .int, .bool, .bool, .int, .int, .bool, .int, .bool, .int, .bool] (cs_IM v) (cs_IM w) :=
  .str (.str (.int (.int (.int (.bool (.int (.bool (.int (.int (.bool (.bool (.int (.int (.bool (.int (.bool (.int (.bool .nil))))))))))))))))))
end Go.Proofs.YthnmienjiangkaaGreatDoor.Pi.Q
namespace Go.Proofs.YthnmienjiangkaaGreatDoor.Pi.Q
open Go Go.Proofs.YthnmienjiangkaaGreatDoor.Pi
attribute [local congr] ite_congr
variable {z1 z2 : Bool}
theorem ucd {H : Heap} {v4 : PV} {l : List VT} (hl : l.length < 2 ^ 62) : ∀ (m i : Nat), i + m = l.length → run (u17 (LZ z1 3 (l.map encV)) (LZ z2 3 (l.map encV)) v4 (.int .i64 i)) H = some (.ok (.bool true) H)
  | 0, i, h => by
    rw [u42]
    have c1 : ¬ (i : Int) < l.length := by omega
    simp +contextual -dsimp (disch := omega) only [↓goDown, goUp, cr, simprocAttr, strip_Z, ln_Z, List.length_map, c1]
  | m + 1, i, h => by
    have ih := ucd hl (v4 := v4) (H := H) m (i + 1) (by omega)
    rw [u42]
    have c1 : (i : Int) < l.length := by omega
    have hi : i < l.length := by omega
    have hg : (l.map encV)[i]? = some (encV l[i]) := by simp [hi]
    have hia : ∀ z, run (iaS 3 (LZ z 3 (l.map encV)) (.int .i64 i)) H = some (.ok (.elem [.int .i64 l[i].num, .bool l[i].nul, .int .i64 l[i].heap]) H) := fun z => ia_Z hg
    have hsame : run (C u2i [.agg [.int .i64 l[i].num, .bool l[i].nul, .int .i64 l[i].heap], .agg [.int .i64 l[i].num, .bool l[i].nul, .int .i64 l[i].heap]]) H = some (.ok (.bool true) H) := unb
    simp +contextual -dsimp (disch := omega) only [↓goDown, goUp, cr, simprocAttr, strip_Z, ln_Z, List.length_map, c1, hia, hsame, un_not, ns]
    exact ih
theorem uc7 {H : Heap} {l : List VT} (hl : l.length < 2 ^ 62) : run (C u29 [LZ z1 3 (l.map encV), LZ z2 3 (l.map encV)]) H = some (.ok (.bool true) H) := by
  rw [u9k]
  have lp : ∀ (v4 : PV) , run (u17 (LZ z1 3 (l.map encV)) (LZ z2 3 (l.map encV)) v4 (.int .i64 0)) H = some (.ok (.bool true) H) := fun v4 => ucd hl l.length 0 (by omega)
  simp +contextual -dsimp (disch := omega) only [↓goDown, goUp, cr, simprocAttr, strip_Z, ln_Z, ucl, lp]
theorem uaa {H : Heap} {v4 : PV} {l : List FT} (hl : l.length < 2 ^ 62) : ∀ (m i : Nat), i + m = l.length → run (u12 (LZ z1 4 (l.map encF)) (LZ z2 4 (l.map encF)) v4 (.int .i64 i)) H = some (.ok (.bool true) H)
  | 0, i, h => by
    rw [u3f]
    have c1 : ¬ (i : Int) < l.length := by omega
    simp +contextual -dsimp (disch := omega) only [↓goDown, goUp, cr, simprocAttr, strip_Z, ln_Z, List.length_map, c1]
  | m + 1, i, h => by
    have ih := uaa hl (v4 := v4) (H := H) m (i + 1) (by omega)
    rw [u3f]
    have c1 : (i : Int) < l.length := by omega
    have hi : i < l.length := by omega
    have hg : (l.map encF)[i]? = some (encF l[i]) := by simp [hi]
    have hia : ∀ z, run (iaS 4 (LZ z 4 (l.map encF)) (.int .i64 i)) H = some (.ok (.elem [.int .i64 l[i].ty.num, .bool l[i].ty.nul, .int .i64 l[i].ty.heap, .bool l[i].mu]) H) := fun z => ia_Z hg
    have hsame : run (C u2i [.agg [.int .i64 l[i].ty.num, .bool l[i].ty.nul, .int .i64 l[i].ty.heap], .agg [.int .i64 l[i].ty.num, .bool l[i].ty.nul, .int .i64 l[i].ty.heap]]) H = some (.ok (.bool true) H) := unb
    simp +contextual -dsimp (disch := omega) only [↓goDown, goUp, cr, simprocAttr, strip_Z, ln_Z, List.length_map, c1, hia, hsame, un_not, ns, ukh]
    exact ih
theorem ufh {H : Heap} {l : List FT} (hl : l.length < 2 ^ 62) : run (C u2j [LZ z1 4 (l.map encF), LZ z2 4 (l.map encF)]) H = some (.ok (.bool true) H) := by
  rw [u8p]
  have lp : ∀ (v4 : PV) , run (u12 (LZ z1 4 (l.map encF)) (LZ z2 4 (l.map encF)) v4 (.int .i64 0)) H = some (.ok (.bool true) H) := fun v4 => uaa hl l.length 0 (by omega)
  simp +contextual -dsimp (disch := omega) only [↓goDown, goUp, cr, simprocAttr, strip_Z, ln_Z, ucl, lp]
theorem ue0 {H : Heap} {v4 : PV} {fin : Bool} {sup : List Int} {kind : Int} {ps rs : List VT} {fs : List FT} {y1 y2 y3 y4 x1 x2 x3 x4 : Bool} (h1 : sup.length < 2 ^ 62) (h2 : ps.length < 2 ^ 62) (h3 : rs.length < 2 ^ 62) (h4 : fs.length < 2 ^ 62) : ∀ (m i : Nat), i + m = sup.length →
    run (u1c (.ptr H.length 0) (.ptr (H.length + 1) 0) v4 (.int .i64 i)) (hadd H [.cells [.bool fin, LZ y1 1 (sup.map encI), .int .i64 kind, LZ y2 3 (ps.map encV), LZ y3 3 (rs.map encV), LZ y4 4 (fs.map encF)], .cells [.bool fin, LZ x1 1 (sup.map encI), .int .i64 kind, LZ x2 3 (ps.map encV), LZ x3 3 (rs.map encV), LZ x4 4 (fs.map encF)]]) =
      some (.ok (.bool true) (hadd H [.cells [.bool fin, LZ y1 1 (sup.map encI), .int .i64 kind, LZ y2 3 (ps.map encV), LZ y3 3 (rs.map encV), LZ y4 4 (fs.map encF)], .cells [.bool fin, LZ x1 1 (sup.map encI), .int .i64 kind, LZ x2 3 (ps.map encV), LZ x3 3 (rs.map encV), LZ x4 4 (fs.map encF)]]))
  | 0, i, h => by
    have s1 := fun L z w => uc7 (z1 := z) (z2 := w) (H := hadd H L) h2
    have s2 := fun L z w => uc7 (z1 := z) (z2 := w) (H := hadd H L) h3
    have s3 := fun L z w => ufh (z1 := z) (z2 := w) (H := hadd H L) h4
    rw [u4f]
    have c1 : ¬ (i : Int) < sup.length := by omega
    simp +contextual -dsimp (disch := omega) only [↓goDown, goUp, cr, simprocAttr, strip_Z, ln_Z, List.length_map, c1, u18, u0n, low_Z, u0o, u16, s1, s2, s3]
  | m + 1, i, h => by
    have ih := ue0 (fin := fin) (kind := kind) (y1 := y1) (y2 := y2) (y3 := y3) (y4 := y4) (x1 := x1) (x2 := x2) (x3 := x3) (x4 := x4) h1 h2 h3 h4 (v4 := v4) (H := H) m (i + 1) (by omega)
    rw [u4f]
    have c1 : (i : Int) < sup.length := by omega
    have hi : i < sup.length := by omega
    have hg : (sup.map encI)[i]? = some (encI sup[i]) := by simp [hi]
    have hia : ∀ K z, run (iaS 1 (LZ z 1 (sup.map encI)) (.int .i64 i)) K = some (.ok (.elem [.int .i64 sup[i]]) K) := fun K z => ia_Z hg
    simp +contextual -dsimp (disch := omega) only [↓goDown, goUp, cr, simprocAttr, strip_Z, ln_Z, List.length_map, c1, u18, u0n, low_Z, u0o, u16, hia, ucl, ns]
    exact ih
theorem uxr {H : Heap} {v w : SG} (hv : v.plain.fit) (hw : v.plain = w.plain) : run (C u2e [.agg (cs_SG v), .agg (cs_SG w)]) H = some (.ok (.bool true) H) := by
  obtain ⟨fin, ⟨y1, sup⟩, ⟨kind, ⟨y2, ps⟩, ⟨y3, rs⟩, ⟨y4, fs⟩⟩⟩ := v
  obtain ⟨fin', ⟨x1, sup'⟩, ⟨kind', ⟨x2, ps'⟩, ⟨x3, rs'⟩, ⟨x4, fs'⟩⟩⟩ := w
  simp only [SG.plain, CG.plain, ST.mk.injEq, CT.mk.injEq] at hw
  obtain ⟨rfl, rfl, rfl, rfl, rfl, rfl⟩ := hw
  obtain ⟨h1, h2, h3, h4⟩ := hv
  simp only [SG.plain, CG.plain] at h1 h2 h3 h4
  have lp : ∀ v4, run (u1c (.ptr H.length 0) (.ptr (H.length + 1) 0) v4 (.int .i64 0)) _ = _ := fun v4 => ue0 (H := H) (v4 := v4) (fin := fin) (kind := kind) (y1 := y1) (y2 := y2) (y3 := y3) (y4 := y4) (x1 := x1) (x2 := x2) (x3 := x3) (x4 := x4) h1 h2 h3 h4 sup.length 0 (by omega)
  rw [u9z]
  unfold cs_SG
  simp +contextual -dsimp (disch := omega) only [↓goDown, goUp, cr, simprocAttr, strip_Z, ln_Z, u18, u0n, low_Z, u0o, u16, ucl, ukh, lp]
theorem udl {H : Heap} {v4 : PV} {l l' : List SG} {y x e : Bool} (hl : l.length < 2 ^ 62) (hv : ∀ t ∈ l, t.plain.fit) (hw : l.map SG.plain = l'.map SG.plain) : ∀ (m i : Nat), i + m = l.length →
    run (u1b (.ptr H.length 0) (.ptr (H.length + 1) 0) v4 (.int .i64 i)) (hadd H [.cells [LZ y 6 (l.map encSG), .bool e], .cells [LZ x 6 (l'.map encSG), .bool e]]) = some (.ok (.bool true) (hadd H [.cells [LZ y 6 (l.map encSG), .bool e], .cells [LZ x 6 (l'.map encSG), .bool e]]))
  | 0, i, h => by
    rw [u48]
    have c1 : ¬ (i : Int) < l.length := by omega
    simp +contextual -dsimp (disch := omega) only [↓goDown, goUp, cr, simprocAttr, strip_Z, ln_Z, List.length_map, c1, u18, u0n, low_Z, u0o, u16]
  | m + 1, i, h => by
    have ih := udl (y := y) (x := x) (e := e) hl hv hw (v4 := v4) (H := H) m (i + 1) (by omega)
    rw [u48]
    have hll : l.length = l'.length := by have := congrArg List.length hw; simpa using this
    have c1 : (i : Int) < l.length := by omega
    have hi : i < l.length := by omega
    have hi' : i < l'.length := by omega
    have hp : l[i].plain = l'[i].plain := by
      have := congrArg (fun k => k[i]?) hw
      simpa [hi, hi'] using this
    have hf := hv _ (List.getElem_mem hi)
    have hg : (l.map encSG)[i]? = some (encSG l[i]) := by simp [hi]
    have hg' : (l'.map encSG)[i]? = some (encSG l'[i]) := by simp [hi']
    have hia : ∀ K z, run (iaS 6 (LZ z 6 (l.map encSG)) (.int .i64 i)) K = some (.ok (.elem (cs_SG l[i])) K) := fun K z => ia_Z hg
    have hia' : ∀ K z, run (iaS 6 (LZ z 6 (l'.map encSG)) (.int .i64 i)) K = some (.ok (.elem (cs_SG l'[i])) K) := fun K z => ia_Z hg'
    have hs : ∀ L, run (C u2e [.agg (cs_SG l[i]), .agg (cs_SG l'[i])]) (hadd H L) = some (.ok (.bool true) (hadd H L)) := fun L => uxr hf hp
    unfold cs_SG at hia hia' hs
    simp +contextual -dsimp (disch := omega) only [↓goDown, goUp, cr, simprocAttr, strip_Z, ln_Z, List.length_map, c1, u18, u0n, low_Z, u0o, u16, hia, hia', hs, un_not, ns]
    exact ih
theorem uz7 {H : Heap} {v w : RG} (hv : v.plain.fit) (hw : v.plain = w.plain) : run (C u3d [.agg (cs_RG v), .agg (cs_RG w)]) H = some (.ok (.bool true) H) := by
  obtain ⟨⟨y, l⟩, e⟩ := v
  obtain ⟨⟨x, l'⟩, e'⟩ := w
  simp only [RG.plain, RT.mk.injEq] at hw
  obtain ⟨hw, rfl⟩ := hw
  have hl : l.length < 2 ^ 62 := by have := hv.1; simpa [RG.plain] using this
  have hll : l.length = l'.length := by have := congrArg List.length hw; simpa using this
  have hv' : ∀ t ∈ l, t.plain.fit := fun t ht => hv.2 _ (List.mem_map_of_mem ht)
  have lp : ∀ v4, run (u1b (.ptr H.length 0) (.ptr (H.length + 1) 0) v4 (.int .i64 0)) _ = _ := fun v4 => udl (H := H) (v4 := v4) (y := y) (x := x) (e := e) hl hv' hw l.length 0 (by omega)
  rw [ua8]
  unfold cs_RG
  simp +contextual -dsimp (disch := omega) only [↓goDown, goUp, cr, simprocAttr, strip_Z, ln_Z, List.length_map, ← hll, u18, u0n, low_Z, u0o, u16, ucl, ukh, lp]
end Go.Proofs.YthnmienjiangkaaGreatDoor.Pi.Q
namespace Go.Proofs.YthnmienjiangkaaGreatDoor.Pi.Q
open Go Go.Proofs.YthnmienjiangkaaGreatDoor.Pi
variable {α β : Type}
theorem u3m {u acc a : List UInt8} (h : kPut u acc = .ok () a) : a = acc ++ u := by
  unfold kPut at h
  split at h
  · cases h; rfl
  · cases h
theorem udi {b : Bool} {acc a : List UInt8} (h : kMust b acc = .ok () a) : b = true ∧ a = acc := by
  unfold kMust at h
  split at h
  · rename_i hb; cases h; exact ⟨hb, rfl⟩
  · cases h
theorem u2t {r : KR} {g : Unit → List UInt8 → KR} {a : List UInt8} (h : r.bind g = .ok () a) : ∃ s, r = .ok () s ∧ g () s = .ok () a := by
  cases r with
  | ok v s => exact ⟨s, rfl, h⟩
  | err t l => cases h
  | no => cases h
def KW (k : α → List UInt8 → KR) (w : α → Wr) : Prop := ∀ v acc a, k v acc = .ok () a → ∃ u, w v = .ok u ∧ a = acc ++ u
theorem uk5 : KW kIndex wIndex := by
  intro v acc a h
  unfold kIndex at h
  unfold wIndex
  split at h
  · rename_i hc; rw [if_pos hc]; exact ⟨_, rfl, u3m h⟩
  · cases h
theorem v016 : KW kHeap wHeap := by
  intro v acc a h
  unfold kHeap at h
  unfold wHeap
  by_cases h0 : 0 ≤ v
  · rw [if_pos h0] at h ⊢
    by_cases h1 : v ≤ 2147483647
    · rw [if_pos h1] at h ⊢; exact ⟨_, rfl, u3m h⟩
    · rw [if_neg h1] at h; cases h
  · rw [if_neg h0] at h ⊢
    cases hf : find v absI 0 with
    | none => rw [hf] at h; cases h
    | some j => rw [hf] at h; exact ⟨_, rfl, u3m h⟩
theorem val_kw : KW kVal wVal := by
  intro v acc a h
  unfold kVal at h
  unfold wVal
  by_cases h5 : v.num = 5
  · rw [if_pos h5] at h ⊢
    obtain ⟨s, h1, h2⟩ := u2t h
    obtain ⟨u, h3, rfl⟩ := v016 _ _ _ h2
    rw [h3]
    by_cases hn : v.nul = false
    · rw [if_pos hn] at h1 ⊢
      rw [u3m h1]
      exact ⟨_, rfl, by simp⟩
    · rw [if_neg hn] at h1 ⊢
      by_cases h0 : 0 ≤ v.heap
      · rw [if_pos h0] at h1 ⊢
        rw [u3m h1]
        exact ⟨_, rfl, by simp⟩
      · rw [if_neg h0] at h1 ⊢
        cases h1
        exact ⟨_, rfl, by simp⟩
  · rw [if_neg h5] at h ⊢
    split at h
    · rename_i hc; rw [if_pos hc]; exact ⟨_, rfl, u3m h⟩
    · cases h
theorem urm : KW kField wField := by
  intro v acc a h
  unfold kField at h
  unfold wField
  obtain ⟨s, h1, h2⟩ := u2t h
  rw [u3m h2]
  by_cases h6 : v.ty = ⟨6, false, 0⟩
  · rw [if_pos h6] at h1 ⊢
    rw [u3m h1]
    exact ⟨_, rfl, by simp⟩
  · rw [if_neg h6] at h1 ⊢
    by_cases h7 : v.ty = ⟨7, false, 0⟩
    · rw [if_pos h7] at h1 ⊢
      rw [u3m h1]
      exact ⟨_, rfl, by simp⟩
    · rw [if_neg h7] at h1 ⊢
      obtain ⟨u, h3, rfl⟩ := val_kw _ _ _ h1
      rw [h3]
      exact ⟨_, rfl, by simp⟩
theorem all_kw {k : α → List UInt8 → KR} {w : α → Wr} (hk : KW k w) : ∀ (l : List α) (acc a : List UInt8), kAll k l acc = .ok () a → ∃ u, wAll w l = .ok u ∧ a = acc ++ u
  | [], acc, a, h => by cases h; exact ⟨[], rfl, by simp⟩
  | x :: l, acc, a, h => by
    obtain ⟨s, h1, h2⟩ := u2t h
    obtain ⟨u, h3, rfl⟩ := hk _ _ _ h1
    obtain ⟨u2, h4, rfl⟩ := all_kw hk l _ _ h2
    refine ⟨u ++ u2, ?_, by simp⟩
    unfold wAll
    rw [h3, h4]
    rfl
theorem uet {k : α → List UInt8 → KR} {w : α → Wr} {most : Nat} (hk : KW k w) : KW (kEach most k) (wEach most w) := by
  intro l acc a h
  unfold kEach at h
  unfold wEach
  split at h
  · cases h
  · rename_i hc
    rw [if_neg hc]
    obtain ⟨s, h1, h2⟩ := u2t h
    obtain ⟨u, h3, rfl⟩ := all_kw hk _ _ _ h2
    rw [h3, u3m h1]
    exact ⟨_, rfl, by simp⟩
theorem uwj : KW kComp wComp := by
  intro v acc a h
  unfold kComp at h
  unfold wComp
  obtain ⟨s0, h0, hh⟩ := u2t h
  replace h := hh
  clear hh
  obtain ⟨g0, rfl⟩ := udi h0
  by_cases h1 : v.kind = 1
  · rw [if_pos h1] at h ⊢
    obtain ⟨s1, k1, hh⟩ := u2t h
    replace h := hh
    clear hh
    obtain ⟨g1, rfl⟩ := udi k1
    obtain ⟨s2, k2, hh⟩ := u2t h
    replace h := hh
    clear hh
    obtain ⟨s3, k3, hh⟩ := u2t h
    replace h := hh
    clear hh
    obtain ⟨u3, w3, rfl⟩ := uet val_kw _ _ _ (show kEach 1000 kVal v.ps _ = _ from k3)
    obtain ⟨u4, w4, rfl⟩ := uet val_kw _ _ _ (show kEach 1000 kVal v.rs _ = _ from h)
    have hf : v.fs.length = 0 := by
      have := beq_iff_eq.mp g1
      omega
    rw [if_pos hf, w3, w4, u3m k2]
    exact ⟨_, rfl, by simp⟩
  · rw [if_neg h1] at h ⊢
    have hl : v.ps.length + v.rs.length = 0 := by
      rw [Bool.or_eq_true] at g0
      rcases g0 with g | g
      · exact absurd (beq_iff_eq.mp g) h1
      · have := beq_iff_eq.mp g
        omega
    rw [if_pos hl]
    by_cases h2 : v.kind = 2
    · rw [if_pos h2] at h ⊢
      obtain ⟨s2, k2, hh⟩ := u2t h
      replace h := hh
      clear hh
      obtain ⟨u4, w4, rfl⟩ := uet urm _ _ _ h
      rw [w4, u3m k2]
      exact ⟨_, rfl, by simp⟩
    · rw [if_neg h2] at h ⊢
      by_cases h3 : v.kind = 3
      · rw [if_pos h3] at h ⊢
        generalize v.fs = l at h ⊢
        match l with
        | [] => cases h
        | [f] =>
          obtain ⟨s2, k2, hh⟩ := u2t h
          replace h := hh
          clear hh
          obtain ⟨u4, w4, rfl⟩ := urm _ _ _ h
          dsimp only
          rw [w4, u3m k2]
          exact ⟨_, rfl, by simp⟩
        | f :: g :: r => cases h
      · rw [if_neg h3] at h; cases h
theorem sub_kw : KW kSub wSub := by
  intro v acc a h
  unfold kSub at h
  unfold wSub
  by_cases h1 : v.fin = true ∧ (v.sup.length : Int) = 0
  · have h2 : v.fin = true ∧ v.sup.length = 0 := ⟨h1.1, by omega⟩
    rw [if_pos h1] at h
    rw [if_pos h2]
    exact uwj _ _ _ h
  · have h2 : ¬ (v.fin = true ∧ v.sup.length = 0) := fun h => h1 ⟨h.1, by omega⟩
    rw [if_neg h1] at h
    rw [if_neg h2]
    obtain ⟨s1, k1, hh⟩ := u2t h
    replace h := hh
    clear hh
    obtain ⟨s2, k2, hh⟩ := u2t h
    replace h := hh
    clear hh
    obtain ⟨u2, w2, rfl⟩ := uet uk5 _ _ _ k2
    obtain ⟨u3, w3, rfl⟩ := uwj _ _ _ h
    rw [w2, w3]
    by_cases hf : v.fin = true
    · rw [if_pos hf] at k1 ⊢
      rw [u3m k1]
      exact ⟨_, rfl, by simp⟩
    · rw [if_neg hf] at k1 ⊢
      rw [u3m k1]
      exact ⟨_, rfl, by simp⟩
theorem rec_kw : KW kRec wRec := by
  intro v acc a h
  unfold kRec at h
  unfold wRec
  generalize v.types = l at h ⊢
  match l with
  | [t] => exact sub_kw _ _ _ h
  | [] =>
    obtain ⟨s1, k1, hh⟩ := u2t h
    replace h := hh
    clear hh
    obtain ⟨u2, w2, rfl⟩ := uet sub_kw _ _ _ h
    dsimp only
    rw [w2, u3m k1]
    exact ⟨_, rfl, by simp⟩
  | t :: t' :: r =>
    obtain ⟨s1, k1, hh⟩ := u2t h
    replace h := hh
    clear hh
    obtain ⟨u2, w2, rfl⟩ := uet sub_kw _ _ _ h
    dsimp only
    rw [w2, u3m k1]
    exact ⟨_, rfl, by simp⟩
def KBack (k : List UInt8 → KR) (r : List UInt8 → Nat → Rs α) (v : α) : Prop := ∀ acc a, k acc = .ok () a → ∃ u, a = acc ++ u ∧ ∀ b p, At b p u → r b p = .ok v (p + u.length)
theorem KBack.of {k : α → List UInt8 → KR} {w : α → Wr} {r : List UInt8 → Nat → Rs α} (hk : KW k w) (hb : Back r w) (v : α) : KBack (k v) r v := fun acc a h => by
  obtain ⟨u, h1, h2⟩ := hk _ _ _ h
  exact ⟨u, h2, fun b p ha => hb v u h1 b p ha⟩
theorem KBack.bind {k1 k2 : List UInt8 → KR} {r : List UInt8 → Nat → Rs α} {s : List UInt8 → α → Nat → Rs β} {v : α} {w : β} (h1 : KBack k1 r v) (h2 : KBack k2 (fun b => s b v) w) : KBack (fun acc => (k1 acc).bind fun _ acc => k2 acc) (fun b => rBind (r b) (s b)) w := fun acc a h => by
  obtain ⟨s1, g1, g2⟩ := u2t h
  obtain ⟨u1, rfl, e1⟩ := h1 _ _ g1
  obtain ⟨u2, rfl, e2⟩ := h2 _ _ g2
  refine ⟨u1 ++ u2, by simp, fun b p ha => ?_⟩
  obtain ⟨a1, a2⟩ := u5x ha
  have e3 := e2 b _ a2
  dsimp only at e3
  show (match r b p with | .ok v q => s b v q | .err a w => .err a w) = _
  rw [e1 b p a1]
  dsimp only
  rw [e3, List.length_append, Nat.add_assoc]
theorem KBack.map {k : List UInt8 → KR} {r : List UInt8 → Nat → Rs α} {v : α} {f : α → β} (h : KBack k r v) : KBack k (fun b => rBind (r b) fun x => rPure (f x)) (f v) := fun acc a g => by
  obtain ⟨u, h1, h2⟩ := h _ _ g
  refine ⟨u, h1, fun b p ha => ?_⟩
  show (match r b p with | .ok v q => rPure (f v) q | .err a w => .err a w) = _
  rw [h2 b p ha]
  rfl
theorem KBack.congr {k k' : List UInt8 → KR} {r r' : List UInt8 → Nat → Rs α} {v v' : α} (h : KBack k r v) (hk : k = k') (hr : r = r') (hv : v = v') : KBack k' r' v' := by
  subst hk hr hv
  exact h
theorem uld {c : Bool} {k : List UInt8 → KR} {r : List UInt8 → Nat → Rs α} {v : α} (h : c = true → KBack k r v) : KBack (fun acc => (kMust c acc).bind fun _ acc => k acc) r v := fun acc a g => by
  obtain ⟨s1, g1, g2⟩ := u2t g
  obtain ⟨hc, rfl⟩ := udi g1
  exact h hc _ _ g2
theorem ufr {most n : Nat} (hm : most < 256) (hn : n ≤ most) : KBack (kPut [UInt8.ofNat n]) (fun b => rSmall b most) n := fun acc a h => ⟨_, u3m h, fun b p ha => u9u hm hn ha⟩
theorem uny {v : LT} (h1 : 0 ≤ v.min ∧ v.min < 18446744073709551616) (h2 : 0 ≤ v.max ∧ v.max < 18446744073709551616) : KBack (u9a v) ua4 v := fun acc a h => by
  obtain ⟨w, mn, mx, hs⟩ := v
  simp only at h1 h2
  unfold u9a at h
  obtain ⟨s1, g1, hh⟩ := u2t h
  replace h := hh
  clear hh
  obtain ⟨s2, g2, hh⟩ := u2t h
  replace h := hh
  clear hh
  obtain ⟨s3, g3, hh⟩ := u2t h
  replace h := hh
  clear hh
  obtain ⟨s4, g4, hh⟩ := u2t h
  replace h := hh
  clear hh
  obtain ⟨c2, rfl⟩ := udi g2
  have e3 := u3m g3
  have e1 := u3m g1
  simp only at g4 h c2 e1 e3
  split at g4
  · rename_i c4
    obtain ⟨c5, rfl⟩ := udi g4
    have num : ∀ (b : List UInt8) (p : Nat) (n : Int), 0 ≤ n → n < 18446744073709551616 → (w || decide (n < 4294967296)) = true → At b p (putU n.toNat) → rNum w b p = .ok n.toNat (p + (putU n.toNat).length) := fun b p n n0 n1 n2 ha => by
      unfold rNum
      cases w with
      | true => exact uuc ha (by decide) (by decide) (by omega)
      | false =>
        simp at n2
        exact ug2 ha (by omega)
    cases hs with
    | true =>
      simp only [if_true] at h e1
      have e5 := u3m h
      subst e1 e3
      refine ⟨[if w = true then 5 else 1] ++ (putU mn.toNat ++ putU mx.toNat), by rw [e5]; simp, fun b p ha => ?_⟩
      obtain ⟨ha1, ha⟩ := u5x ha
      obtain ⟨ha2, ha3⟩ := u5x ha
      simp only [List.length_cons, List.length_nil, Nat.zero_add] at ha2 ha3
      have n1 := num b (p + 1) mn h1.1 h1.2 c2 ha2
      have n2 := num b _ mx h2.1 h2.2 c5 ha3
      have em : ((mn.toNat : Nat) : Int) = mn := Int.toNat_of_nonneg h1.1
      have ex : ((mx.toNat : Nat) : Int) = mx := Int.toNat_of_nonneg h2.1
      unfold ua4
      cases w with
      | true =>
        have hsm : rSmall b 5 p = .ok 5 (p + 1) := u9u (most := 5) (v := 5) (by decide) (by decide) ha1
        rw [hsm]
        simp only [rLim2, rMaxi]
        show (match rNum true b (p + 1) with | .ok mn q => _ | .err a e => _) = _
        rw [n1]
        show (match rNum true b (p + 1 + (putU mn.toNat).length) with | .ok mx q => _ | .err a e => _) = _
        rw [n2]
        simp only [em, ex, List.length_append, List.length_cons, List.length_nil]
        congr 1
        omega
      | false =>
        have hsm : rSmall b 5 p = .ok 1 (p + 1) := u9u (most := 5) (v := 1) (by decide) (by decide) ha1
        rw [hsm]
        simp only [rLim2, rMaxi]
        show (match rNum false b (p + 1) with | .ok mn q => _ | .err a e => _) = _
        rw [n1]
        show (match rNum false b (p + 1 + (putU mn.toNat).length) with | .ok mx q => _ | .err a e => _) = _
        rw [n2]
        simp only [em, ex, List.length_append, List.length_cons, List.length_nil]
        congr 1
        omega
    | false =>
      simp only [Bool.false_eq_true, if_false] at h e1
      have hmx : mx = 0 := by
        rcases c4 with c | c
        · cases c
        · exact c
      subst hmx
      cases h
      subst e1 e3
      refine ⟨[if w = true then 4 else 0] ++ putU mn.toNat, by simp, fun b p ha => ?_⟩
      obtain ⟨ha1, ha2⟩ := u5x ha
      simp only [List.length_cons, List.length_nil, Nat.zero_add] at ha2
      have n1 := num b (p + 1) mn h1.1 h1.2 c2 ha2
      have em : ((mn.toNat : Nat) : Int) = mn := Int.toNat_of_nonneg h1.1
      unfold ua4
      cases w with
      | true =>
        have hsm : rSmall b 5 p = .ok 4 (p + 1) := u9u (most := 5) (v := 4) (by decide) (by decide) ha1
        rw [hsm]
        simp only [rLim2, rMaxi]
        show (match rNum true b (p + 1) with | .ok mn q => _ | .err a e => _) = _
        rw [n1]
        simp only [em, List.length_append, List.length_cons, List.length_nil]
        show Rs.ok _ _ = Rs.ok _ _
        congr 1
        omega
      | false =>
        have hsm : rSmall b 5 p = .ok 0 (p + 1) := u9u (most := 5) (v := 0) (by decide) (by decide) ha1
        rw [hsm]
        simp only [rLim2, rMaxi]
        show (match rNum false b (p + 1) with | .ok mn q => _ | .err a e => _) = _
        rw [n1]
        simp only [em, List.length_append, List.length_cons, List.length_nil]
        show Rs.ok _ _ = Rs.ok _ _
        congr 1
        omega
  · cases g4
theorem v00x {b : List UInt8} {p q : Nat} {v : VT} (h5 : v.num = 5) (h : rVal b p = .ok v q) : rRef b p = .ok v q := by
  by_cases hp : p < b.length
  · rw [v00u hp] at h
    rw [uwf hp]
    unfold rOf at h ⊢
    by_cases h1 : (b.getD p 0).toNat = 99 ∨ (b.getD p 0).toNat = 100
    · rw [if_pos h1] at h ⊢; exact h
    · rw [if_neg h1] at h ⊢
      by_cases h2 : 105 ≤ (b.getD p 0).toNat ∧ (b.getD p 0).toNat ≤ 116
      · rw [if_pos h2] at h ⊢; exact h
      · rw [if_neg h2] at h
        split at h
        · cases h
        · split at h
          · rename_i hc
            simp only [Rs.ok.injEq] at h
            obtain ⟨rfl, _⟩ := h
            simp only at h5
            omega
          · cases h
  · unfold rVal at h
    rw [if_neg hp] at h
    cases h
theorem uya {v : TB} (h1 : 0 ≤ v.lim.min ∧ v.lim.min < 18446744073709551616) (h2 : 0 ≤ v.lim.max ∧ v.lim.max < 18446744073709551616) : KBack (kTable v) rTable v :=
  uld (fun h5 => by
    have hr : KBack (kVal v.elem) rRef v.elem := fun acc a h => by
      obtain ⟨u, e1, e2⟩ := KBack.of val_kw ufq v.elem acc a h
      exact ⟨u, e1, fun b p ha => v00x (of_decide_eq_true h5) (e2 b p ha)⟩
    exact KBack.bind hr (KBack.map (f := fun l => (⟨v.elem, l⟩ : TB)) (uny h1 h2)))
theorem uv6 {v : GO} : KBack (ucm v) uoj v := by
  have hs : KBack (kPut [if v.mu then 1 else 0]) (fun b => rBind (rSmall b 1) fun n => rPure (⟨v.ty, n == 1⟩ : GO)) v := by
    obtain ⟨ty, mu⟩ := v
    cases mu with
    | true => exact (KBack.map (f := fun n => (⟨ty, n == 1⟩ : GO)) (ufr (most := 1) (n := 1) (by decide) (by decide)))
    | false => exact (KBack.map (f := fun n => (⟨ty, n == 1⟩ : GO)) (ufr (most := 1) (n := 0) (by decide) (by decide)))
  exact KBack.bind (KBack.of val_kw ufq v.ty) hs
theorem tag_kb {n : Int} : KBack (kTag n) rTag n := KBack.bind (s := fun b _ => rIndex b) (ufr (most := 0) (n := 0) (by decide) (by decide)) (KBack.of uk5 ue9 n)
theorem upf {b u : List UInt8} {q : Nat} (h : At b q u) : (b.take (q + u.length)).drop q = u := by
  obtain ⟨h1, y, h2⟩ := h
  rw [List.drop_take, h2, Nat.add_sub_cancel_left, List.take_left']
  rfl
theorem uw5 {u : List UInt8} : KBack (kName u) rNm u := fun acc a h => by
  unfold kName at h
  split at h
  · rename_i h0
    have hw : wName u = (putU u.length ++ u, 0) ∧ u.length ≤ 65536 ∧ utfN u = none := by
      unfold wName at h0 ⊢
      by_cases h1 : 65536 < u.length
      · rw [if_pos h1] at h0; cases h0
      · rw [if_neg h1] at h0 ⊢
        by_cases h2 : (utfN u).isSome = true
        · rw [if_pos h2] at h0; cases h0
        · rw [if_neg h2]
          exact ⟨rfl, by omega, by simpa using h2⟩
    obtain ⟨hw, hl, hu⟩ := hw
    rw [hw] at h
    refine ⟨_, u3m h, fun b p ha => ?_⟩
    obtain ⟨a1, a2⟩ := u5x ha
    have hr := ug2 a1 (by omega)
    have hle := at_le a2
    have hr : rdU b 32 b.length p = .ok u.length (p + (putU u.length).length) := hr
    unfold rNm rName
    rw [hr]
    dsimp only
    rw [if_neg (by omega), if_neg (by omega), upf a2, hu]
    simp only [List.length_append, Nat.add_assoc]
  · cases h
theorem ext_kb {v : XT} (t1 : 0 ≤ v.tab.lim.min ∧ v.tab.lim.min < 18446744073709551616) (t2 : 0 ≤ v.tab.lim.max ∧ v.tab.lim.max < 18446744073709551616) (m1 : 0 ≤ v.mem.min ∧ v.mem.min < 18446744073709551616) (m2 : 0 ≤ v.mem.max ∧ v.mem.max < 18446744073709551616) : KBack (kExt v) rExt v :=
  uld (fun hd => by
    obtain ⟨k, ty, tab, mem, glo⟩ := v
    have hx := of_decide_eq_true hd
    simp only [okX] at hx
    simp only at t1 t2 m1 m2
    obtain ⟨x1, x2, x3, x4, x5, x6⟩ := hx
    obtain ⟨n, rfl⟩ := Int.eq_ofNat_of_zero_le x1
    have hn : n ≤ 4 := by omega
    have ew : (IntKind.u8.wrap (n : Int)).toNat = n := by rw [w_u8 (by omega)]; simp
    have ei : IntKind.i64.wrap (n : Int) = (n : Int) := w_i64 (by omega)
    simp only [ew]
    refine KBack.bind (s := fun b (k : Nat) => rExtK b (IntKind.i64.wrap (k : Int))) (k1 := kPut [UInt8.ofNat n]) (k2 := fun acc => if (n : Int) = 0 then kIndex ty acc else if (n : Int) = 1 then kTable tab acc else if (n : Int) = 2 then u9a mem acc else if (n : Int) = 3 then ucm glo acc else kTag ty acc) (r := fun b => rSmall b 4) (v := n) (ufr (most := 4) (n := n) (by decide) hn) ?_
    simp only [ei]
    by_cases c0 : (n : Int) = 0
    · obtain rfl := x4.resolve_left (by omega)
      obtain rfl := x5.resolve_left (by omega)
      obtain rfl := x6.resolve_left (by omega)
      refine KBack.congr (KBack.map (f := fun m => (⟨(n : Int), m, zTB, zLT, zGO⟩ : XT)) (KBack.of uk5 ue9 ty)) (by funext acc; rw [if_pos c0]) (by funext b p; unfold rExtK; rw [if_pos c0]) rfl
    by_cases c1 : (n : Int) = 1
    · obtain rfl := (x3.resolve_left (by omega)).resolve_left (by omega)
      obtain rfl := x5.resolve_left (by omega)
      obtain rfl := x6.resolve_left (by omega)
      refine KBack.congr (KBack.map (f := fun m => (⟨(n : Int), 0, m, zLT, zGO⟩ : XT)) (uya t1 t2)) (by funext acc; rw [if_neg c0, if_pos c1]) (by funext b p; unfold rExtK; rw [if_neg c0, if_pos c1]) rfl
    by_cases c2 : (n : Int) = 2
    · obtain rfl := (x3.resolve_left (by omega)).resolve_left (by omega)
      obtain rfl := x4.resolve_left (by omega)
      obtain rfl := x6.resolve_left (by omega)
      refine KBack.congr (KBack.map (f := fun m => (⟨(n : Int), 0, zTB, m, zGO⟩ : XT)) (uny m1 m2)) (by funext acc; rw [if_neg c0, if_neg c1, if_pos c2]) (by funext b p; unfold rExtK; rw [if_neg c0, if_neg c1, if_pos c2]) rfl
    by_cases c3 : (n : Int) = 3
    · obtain rfl := (x3.resolve_left (by omega)).resolve_left (by omega)
      obtain rfl := x4.resolve_left (by omega)
      obtain rfl := x5.resolve_left (by omega)
      refine KBack.congr (KBack.map (f := fun m => (⟨(n : Int), 0, zTB, zLT, m⟩ : XT)) uv6) (by funext acc; rw [if_neg c0, if_neg c1, if_neg c2, if_pos c3]) (by funext b p; unfold rExtK; rw [if_neg c0, if_neg c1, if_neg c2, if_pos c3]) rfl
    have c4 : (n : Int) = 4 := by omega
    obtain rfl := x4.resolve_left (by omega)
    obtain rfl := x5.resolve_left (by omega)
    obtain rfl := x6.resolve_left (by omega)
    refine KBack.congr (KBack.map (f := fun m => (⟨(n : Int), m, zTB, zLT, zGO⟩ : XT)) tag_kb) (by funext acc; rw [if_neg c0, if_neg c1, if_neg c2, if_neg c3]) (by funext b p; unfold rExtK; rw [if_neg c0, if_neg c1, if_neg c2, if_neg c3, if_pos c4]) rfl)
theorem uwx {v : IM} (t1 : 0 ≤ v.ext.tab.lim.min ∧ v.ext.tab.lim.min < 18446744073709551616) (t2 : 0 ≤ v.ext.tab.lim.max ∧ v.ext.tab.lim.max < 18446744073709551616) (m1 : 0 ≤ v.ext.mem.min ∧ v.ext.mem.min < 18446744073709551616) (m2 : 0 ≤ v.ext.mem.max ∧ v.ext.mem.max < 18446744073709551616) : KBack (ud1 v) ujx v := by
  obtain ⟨⟨⟨m⟩⟩, ⟨⟨n⟩⟩, x⟩ := v
  exact KBack.bind (r := rNm) (v := m) (s := fun b (m : List UInt8) => rBind (rNm b) fun n => rBind (rExt b) fun x => rPure (⟨⟨m.toArray⟩, ⟨n.toArray⟩, x⟩ : IM)) (uw5 (u := m))
    (KBack.bind (r := rNm) (v := n) (s := fun b (n : List UInt8) => rBind (rExt b) fun x => rPure (⟨⟨m.toArray⟩, ⟨n.toArray⟩, x⟩ : IM)) (uw5 (u := n)) (KBack.map (f := fun x => (⟨⟨m.toArray⟩, ⟨n.toArray⟩, x⟩ : IM)) (ext_kb t1 t2 m1 m2)))
end Go.Proofs.YthnmienjiangkaaGreatDoor.Pi.Q
namespace Go.Proofs.YthnmienjiangkaaGreatDoor.Pi.Q
open Go Go.Proofs.YthnmienjiangkaaGreatDoor.Pi
attribute [local congr] ite_congr
variable {u f r : List UInt8} {zf zr : Bool}
abbrev ownB (u : List UInt8) : PV := .slice true false 1 (bytes u)
theorem ap_own {x f : List UInt8} {z : Bool} {K : Heap} (h : x.length + f.length ≤ 140737488355328) : run (ap true 1 1 (ownB x) (LZ z 1 (bytes f))) K = some (.ok (ownB (x ++ f)) K) := by
  have key : (bytes x).length + (bytes f).length = x.length + f.length := by simp [bytes]
  have ht : tail 1 (LZ z 1 (bytes f)) = some (bytes f) := by
    cases f with
    | nil => cases z <;> rfl
    | cons a l => rfl
  unfold run ap
  simp only [ht, cond_false, Bool.true_and, beq_self_eq_true, growB, key, Nat.max_self, Nat.mul_one]
  rw [decide_eq_true h]
  simp only [cond_true]
  show some (Out.ok (PV.slice true false 1 (List.map byt x ++ List.map byt f)) K) = _
  rw [← List.map_append]
theorem uv9 {K : Heap} : bsR true none [] K = some (.ok (ownB []) K) := nrfl rfl
theorem un7 : strip (ownB u) = BS false u := nrfl rfl
theorem uns : isTup (ownB u) = false := nrfl rfl
theorem ug8 {K : Heap} {j : Nat} {v : IM} (hj : hget K j = some (.cells (cs_IM v)))
    (t1 : 0 ≤ v.ext.tab.lim.min ∧ v.ext.tab.lim.min < 18446744073709551616) (t2 : 0 ≤ v.ext.tab.lim.max ∧ v.ext.tab.lim.max < 18446744073709551616) (m1 : 0 ≤ v.ext.mem.min ∧ v.ext.mem.min < 18446744073709551616) (m2 : 0 ≤ v.ext.mem.max ∧ v.ext.mem.max < 18446744073709551616) (u1 : v.mod.size ≤ maxLen) (u2 : v.nm.size ≤ maxLen)
    (x0 : v.ext.ty ≤ 9223372036854775807) (x1 : I64 v.ext.tab.elem.heap) (x2 : I64 v.ext.glo.ty.heap) (hf : f.length ≤ 1048576) (hr : r.length ≤ 1048576) :
    ∃ E, run (u27 (LZ zf 1 (bytes f)) (LZ zr 1 (bytes r)) (.ptr j 0) (.bool false)) K = some (.ok (.bool true) (hadd K E)) := by
  have hw := fun K => uxn (H := K)
  have hjK := get_lt hj
  have hg : ∀ L, hget (hadd K L) j = some (.cells (cs_IM v)) := fun L => by rw [u5a hjK]; exact hj
  rw [u7a]
  rcases (uth (v := v) x0 x1 t1 t2 m1 m2 x2).1 [] (by simp) with ⟨a, h1, h2, _⟩ | ⟨e, b, he, _, h2, _⟩
  · have hp := fun K => ujn (H := K) t1 t2 m1 m2 u1 u2 (by rw [h2]; exact ⟨fun t l h => (by cases h), fun h => (by cases h)⟩)
    rw [h2] at hp
    simp only [outW] at hp
    obtain ⟨u, e1, e2⟩ := uwx t1 t2 m1 m2 [] a h2
    rw [List.nil_append] at e1
    subst e1
    have ha : At (f ++ a ++ r) f.length a := at_mid
    have hb := e2 _ _ ha
    simp only [List.length_nil, Nat.zero_add] at h1
    have hin := fun K => usn (H := K) (z := false) (b := f ++ a ++ r) (at_ := (f.length : Int)) (by simp only [List.length_append]; omega)
    unfold atPl at hin
    rw [if_neg (by simp only [List.length_append]; omega), Int.toNat_natCast, hb] at hin
    simp only [outR, u5p] at hin
    have e1 : ((f.length : Int) + (a.length : Int)) = ((f.length + a.length : Nat) : Int) := rfl
    have w1 : IntKind.i64.wrap ((f.length + a.length : Nat) : Int) = ((f.length + a.length : Nat) : Int) := w_i64 (by omega)
    have a1 := fun K => ap_own (x := []) (f := f) (z := zf) (K := K) (by simp only [List.length_nil]; omega)
    have a2 := fun K => ap_own (x := f) (f := a) (z := true) (K := K) (by omega)
    have a3 := fun K => ap_own (x := f ++ a) (f := r) (z := zr) (K := K) (by simp only [List.length_append]; omega)
    rw [List.nil_append] at a1
    have nq := fun K => uxp (H := K) (v011 (v := v) (w := v))
    unfold cs_IM at hj hg nq
    refine ⟨[.cells (cs_IM v)], ?_⟩
    unfold cs_IM
    simp +contextual -dsimp (disch := omega) only [↓goDown, goUp, cr, simprocAttr, hj, hg, hp, hw, uv9, a1, a2, a3, un7, uns, strip_Z, u16, ln_Z, List.length_map, hin, e1, w1, ul6, ucl, bne_self_eq_false, nq, u0n, u18, low_Z, u0o, u3q]
  · have hp := fun K => ujn (H := K) t1 t2 m1 m2 u1 u2 (by rw [h2]; exact ⟨fun t l h => (by cases h; exact ⟨rfl, _, _, rfl⟩), fun h => (by cases h)⟩)
    rw [h2] at hp
    simp only [outW, if_true] at hp
    have c1 : ((e : Int) = 0) = False := eq_false (by omega)
    unfold cs_IM at hj hg
    refine ⟨[], ?_⟩
    simp +contextual -dsimp (disch := omega) only [↓goDown, goUp, cr, simprocAttr, hj, hg, hp, hw, c1, u16, u0n, u18, low_Z, u0o, u3q]
    all_goals exact congrArg (fun K => some (Out.ok _ K)) (List.append_nil _).symm
theorem uu5 {g : RG} {v : IM} {H : Heap} (g1 : g.fit) (g2 : g.plain.fit) (g3 : g.plain.w) (g5 : nRec g.plain ≤ 100000000000)
    (t1 : 0 ≤ v.ext.tab.lim.min ∧ v.ext.tab.lim.min < 18446744073709551616) (t2 : 0 ≤ v.ext.tab.lim.max ∧ v.ext.tab.lim.max < 18446744073709551616) (m1 : 0 ≤ v.ext.mem.min ∧ v.ext.mem.min < 18446744073709551616) (m2 : 0 ≤ v.ext.mem.max ∧ v.ext.mem.max < 18446744073709551616) (u1 : v.mod.size ≤ maxLen) (u2 : v.nm.size ≤ maxLen)
    (x0 : v.ext.ty ≤ 9223372036854775807) (x1 : I64 v.ext.tab.elem.heap) (x2 : I64 v.ext.glo.ty.heap) (hf : f.length ≤ 1048576) (hr : r.length ≤ 1048576) :
    run (C u25 [.agg (cs_RG g), .agg (cs_IM v), LZ zf 1 (bytes f), LZ zr 1 (bytes r)]) H = some (.ok (.bool true) H) := by
  rw [u93]
  rcases v018 g2 g3 (show nRec g.plain ≤ 140737488355328 by omega) with ⟨a, h1, h2, _⟩ | ⟨e, b, he, h2, _⟩
  · have hp := fun K => uvf (H := K) g1 (by rw [h2]; exact ⟨fun t l h => (by cases h), fun h => (by cases h)⟩)
    rw [h2] at hp
    simp only [outW] at hp
    obtain ⟨u, e1, e2⟩ := rec_kw _ _ _ h2
    rw [List.nil_append] at e2
    subst e2
    have ha : At (f ++ a ++ r) f.length a := at_mid
    have hb := uzf e1 ha
    have hin := fun K => upg (H := K) (z := false) (b := f ++ a ++ r) (at_ := (f.length : Int)) (by simp only [List.length_append]; omega)
    unfold atPl at hin
    rw [if_neg (by simp only [List.length_append]; omega), Int.toNat_natCast, hb] at hin
    simp only [outR, ← uzt] at hin
    have q1 : ((f.length : Int) + (a.length : Int)) = ((f.length + a.length : Nat) : Int) := rfl
    have w1 : IntKind.i64.wrap ((f.length + a.length : Nat) : Int) = ((f.length + a.length : Nat) : Int) := w_i64 (by omega)
    have a1 := fun K => ap_own (x := []) (f := f) (z := zf) (K := K) (by simp only [List.length_nil]; omega)
    have a2 := fun K => ap_own (x := f) (f := a) (z := true) (K := K) (by omega)
    have a3 := fun K => ap_own (x := f ++ a) (f := r) (z := zr) (K := K) (by simp only [List.length_append]; omega)
    rw [List.nil_append] at a1
    have hs := fun K => uz7 (H := K) (v := g.plain.plain.gl) (w := ⟨g.types, ((g.types.l.length : Int) != 1)⟩) (by rw [RT.gl_plain]; exact g2) (by
      rw [RT.gl_plain]
      show (⟨_, decide ((g.types.l.map SG.plain).length ≠ 1)⟩ : RT) = ⟨_, _⟩
      rw [List.length_map]
      congr 1
      rw [Bool.eq_iff_iff]
      simp
      omega)
    obtain ⟨E, ht⟩ := ug8 (K := hadd H [.cells (cs_RG g), .cells (cs_IM v), .cells (cs_RG g.plain.plain.gl), .cells (cs_RG ⟨g.types, ((g.types.l.length : Int) != 1)⟩)]) (j := List.length H + 1) (f := f) (r := r) (zf := zf) (zr := zr) (v := v) (by rw [ual]; rfl) t1 t2 m1 m2 u1 u2 x0 x1 x2 hf hr
    rw [u9t] at ht
    unfold encRG at hp hin
    generalize g.plain.plain.gl = G at hin hs ht
    unfold cs_RG cs_IM at *
    simp only [List.cons_append, List.nil_append] at ht
    simp +contextual -dsimp (disch := omega) only [↓goDown, goUp, cr, simprocAttr, hp, uv9, a1, a2, a3, un7, uns, strip_Z, u16, ln_Z, List.length_map, hin, q1, w1, ul6, ucl, bne_self_eq_false, hs, un_not, u0n, u18, low_Z, u0o, ht]
  · have hp := fun K => uvf (H := K) g1 (by rw [h2]; exact ⟨fun t l h => (by cases h; exact ⟨rfl, _, _, rfl⟩), fun h => (by cases h)⟩)
    rw [h2] at hp
    simp only [outW, if_true] at hp
    have c1 : ((e : Int) = 0) = False := eq_false (by omega)
    obtain ⟨E, ht⟩ := ug8 (K := hadd H [.cells (cs_RG g), .cells (cs_IM v)]) (j := List.length H + 1) (f := f) (r := r) (zf := zf) (zr := zr) (v := v) (by rw [ual]; rfl) t1 t2 m1 m2 u1 u2 x0 x1 x2 hf hr
    rw [u9t] at ht
    unfold encRG at hp
    unfold cs_RG cs_IM at *
    simp only [List.cons_append, List.nil_append] at ht
    simp +contextual -dsimp (disch := omega) only [↓goDown, goUp, cr, simprocAttr, hp, c1, strip_Z, u16, u0n, u18, low_Z, u0o, ht]
end Go.Proofs.YthnmienjiangkaaGreatDoor.Pi.Q
namespace Go.Proofs.YthnmienjiangkaaGreatDoor.Pi.Q
open Go Go.Proofs.YthnmienjiangkaaGreatDoor.Pi
def encU8 (n : Int) : PV := .int .u8 n
def toU8 (l : List Int) : List UInt8 := l.map fun n => UInt8.ofNat n.toNat
theorem uos : ∀ {l : List Int}, (∀ a ∈ l, (Lit.int .u8 a).wf = true) → l.map encU8 = bytes (toU8 l)
  | [], h => rfl
  | a :: l, h => by
    have ha : 0 ≤ a ∧ a ≤ 255 := by
      have := h a (by simp)
      simp [Lit.wf, IntKind.min, IntKind.max, IntKind.bits, IntKind.signed] at this
      omega
    have ih := uos (l := l) (fun x hx => h x (by simp [hx]))
    unfold toU8 at ih ⊢
    rw [List.map_cons, ih, List.map_cons]
    show encU8 a :: _ = byt (UInt8.ofNat a.toNat) :: _
    congr 1
    unfold byt encU8
    rw [u2v (by omega)]
    congr 1
    omega
theorem rg_n {v : RG} (hm : ms_RG v ≤ 1048576) : nRec v.plain ≤ 100000000000 := by
  have hs : sumL (fun a => ms_SG a) v.types.l ≤ ms_RG v := by unfold ms_RG; omega
  unfold nRec RG.plain
  simp only [ul0]
  have := uof (m := fun a => ms_SG a) (n := fun a => nSub a.plain) (k := 60) v.types.l (fun a _ => sg_n)
  omega
theorem back_of {g : RG} {v : IM} {x y : GL Int} {H : Heap} (hg : ok_RG g) (h : ok_IM v) (hx : ∀ a ∈ x.l, (Lit.int .u8 a).wf = true) (hy : ∀ a ∈ y.l, (Lit.int .u8 a).wf = true) (m0 : ms_RG g ≤ 1048576) (m2 : sumL (fun a : Int => 1) x.l ≤ 1048576) (m3 : sumL (fun a : Int => 1) y.l ≤ 1048576) :
    run (C u25 [.agg (cs_RG g), .agg (cs_IM v), LZ x.z 1 (x.l.map encU8), LZ y.z 1 (y.l.map encU8)]) H = some (.ok (.bool true) H) := by
  obtain ⟨g1, g2, g3, g4, g5⟩ := rg_all hg m0
  obtain ⟨h1, h2, ⟨h3, h4, ⟨⟨h5, _, h6, _⟩, ⟨_, h7, h8, _⟩, _⟩, ⟨_, h9, h10, _⟩, ⟨⟨h11, _, h12, _⟩, _⟩, _⟩, _⟩ := h
  have s1 := u31 (m := fun _ : Int => 1) x.l (fun _ _ => Nat.le_refl _)
  have s2 := u31 (m := fun _ : Int => 1) y.l (fun _ _ => Nat.le_refl _)
  rw [uos hx, uos hy]
  exact uu5 g1 g2 g3 (rg_n m0) (wf_u64 h7) (wf_u64 h8) (wf_u64 h9) (wf_u64 h10) h1 h2 (wf_i64 h4).2 (wf_i64 h6) (wf_i64 h12) (by unfold toU8; rw [List.length_map]; omega) (by unfold toU8; rw [List.length_map]; omega)
end Go.Proofs.YthnmienjiangkaaGreatDoor.Pi.Q
