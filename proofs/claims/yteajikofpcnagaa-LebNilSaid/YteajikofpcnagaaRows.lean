/-
  No cell of these rows narrows 'for every input' (looked for: loops, veiled, ifaces, maps, wideKeys, modest, calm, conditions, laid).
  DERIVED. THE GIVEN ROWS OF THIS SEAT. 9 by the template 'for every input the law returns true; each argument reads behind the call as it read before'; 0 by the template 'total and deterministic' (their statements: YteajikofpcnagaaTotals.lean).
  GIVEN WITH THE SEED: the statements are not yours to turn. If you find one false, say at which input.
  Laid BY PROGRAM, IN A SANDBOX (cutbox-rows.mjs): the forced cells as the released guide's own fill.sh prints them over the translation 27d5d858962fb806… (all of the seat's roots in one cut). By AI agents, Wed Nov 11 2026. No macro, syntax, notation, axiom, sorry.
-/
import Derived.Test.YteajikofpcnagaaChecked
import GoSem.Claim
import GoSem.ClaimJoined
import GoSem.ClaimMapViews
import Derived.JoinedTies
import Derived.KernelRfl
namespace Go.Proofs.Yteajikofpcnagaa
/- THE CELL 'sum', in the pinned program and in every row, IS THE sha256 OF THE DUMP (.gsa) THAT YteajikofpcnagaaProg.lean LOADS. Nothing in Lean hashes anything: it is a label: what it is worth is what the hold of that sum in a sandbox is worth. -/
noncomputable def Try.pinned : Pinned := { name := "yteajikofpcnagaa", sum := "27d5d858962fb806b1217e7f33c23404edf9b470a02d17cccc88d09e22518e6a", checked := Try.checked }
namespace Rows
def none {H : Type} : Left H := { results := [], args := [] }

/-- 'ratchetlaw01.LebWrites': WHATEVER THE INPUT: true; the input reads as it did. -/
def lebWritesSpec : ChangeSpec := { name := "lebWrites", fn := fun _ => fun
  | [d] => { results := [.lit (.bool true)], args := [d] }
  | _ => none }
def lebWritesRow : OpenClaim := { program := "yteajikofpcnagaa", sum := "27d5d858962fb806b1217e7f33c23404edf9b470a02d17cccc88d09e22518e6a", func := "ratchet/ratchetlaw01.LebWrites", spec := "lebWrites", apart := false }
def LebWritesSaid : Prop := lebWritesRow.holds Try.pinned (OpenSpec.ofChange lebWritesSpec)

/-- ITS FALSE NEIGHBOUR: 'it returns false'. Refute it at one input. -/
def lebWritesWrong : ChangeSpec := { name := "lebWrites", fn := fun _ => fun
  | [d] => { results := [.lit (.bool false)], args := [d] }
  | _ => none }
def LebWritesWrongFalsely : Prop := lebWritesRow.holds Try.pinned (OpenSpec.ofChange lebWritesWrong)

/-- 'ratchetlaw21.MemoryGrows': WHATEVER THE INPUT: true; the input reads as it did. -/
def memoryGrowsSpec : ChangeSpec := { name := "memoryGrows", fn := fun _ => fun
  | [d1, d2, d3] => { results := [.lit (.bool true)], args := [d1, d2, d3] }
  | _ => none }
def memoryGrowsRow : OpenClaim := { program := "yteajikofpcnagaa", sum := "27d5d858962fb806b1217e7f33c23404edf9b470a02d17cccc88d09e22518e6a", func := "ratchet/ratchetlaw21.MemoryGrows", spec := "memoryGrows", apart := false }
def MemoryGrowsSaid : Prop := memoryGrowsRow.holds Try.pinned (OpenSpec.ofChange memoryGrowsSpec)

/-- ITS FALSE NEIGHBOUR: 'it returns false'. Refute it at one input. -/
def memoryGrowsWrong : ChangeSpec := { name := "memoryGrows", fn := fun _ => fun
  | [d1, d2, d3] => { results := [.lit (.bool false)], args := [d1, d2, d3] }
  | _ => none }
def MemoryGrowsWrongFalsely : Prop := memoryGrowsRow.holds Try.pinned (OpenSpec.ofChange memoryGrowsWrong)

/-- 'ratchetlaw01.LebWider': WHATEVER THE INPUT: true; the input reads as it did. -/
def lebWiderSpec : ChangeSpec := { name := "lebWider", fn := fun _ => fun
  | [d] => { results := [.lit (.bool true)], args := [d] }
  | _ => none }
def lebWiderRow : OpenClaim := { program := "yteajikofpcnagaa", sum := "27d5d858962fb806b1217e7f33c23404edf9b470a02d17cccc88d09e22518e6a", func := "ratchet/ratchetlaw01.LebWider", spec := "lebWider", unfollowed := true, recurses := true, apart := false }
def LebWiderSaid : Prop := lebWiderRow.holds Try.pinned (OpenSpec.ofChange lebWiderSpec)

/-- ITS FALSE NEIGHBOUR: 'it returns false'. Refute it at one input. -/
def lebWiderWrong : ChangeSpec := { name := "lebWider", fn := fun _ => fun
  | [d] => { results := [.lit (.bool false)], args := [d] }
  | _ => none }
def LebWiderWrongFalsely : Prop := lebWiderRow.holds Try.pinned (OpenSpec.ofChange lebWiderWrong)

/-- 'ratchetlaw01.LebBack': WHATEVER THE INPUT: true; the input reads as it did. -/
def lebBackSpec : ChangeSpec := { name := "lebBack", fn := fun _ => fun
  | [d1, d2, d3] => { results := [.lit (.bool true)], args := [d1, d2, d3] }
  | _ => none }
def lebBackRow : OpenClaim := { program := "yteajikofpcnagaa", sum := "27d5d858962fb806b1217e7f33c23404edf9b470a02d17cccc88d09e22518e6a", func := "ratchet/ratchetlaw01.LebBack", spec := "lebBack", unfollowed := true, recurses := true, apart := false }
def LebBackSaid : Prop := lebBackRow.holds Try.pinned (OpenSpec.ofChange lebBackSpec)

/-- ITS FALSE NEIGHBOUR: 'it returns false'. Refute it at one input. -/
def lebBackWrong : ChangeSpec := { name := "lebBack", fn := fun _ => fun
  | [d1, d2, d3] => { results := [.lit (.bool false)], args := [d1, d2, d3] }
  | _ => none }
def LebBackWrongFalsely : Prop := lebBackRow.holds Try.pinned (OpenSpec.ofChange lebBackWrong)

/-- 'ratchetlaw01.LebShort': WHATEVER THE INPUT: true; the input reads as it did. -/
def lebShortSpec : ChangeSpec := { name := "lebShort", fn := fun _ => fun
  | [d1, d2] => { results := [.lit (.bool true)], args := [d1, d2] }
  | _ => none }
def lebShortRow : OpenClaim := { program := "yteajikofpcnagaa", sum := "27d5d858962fb806b1217e7f33c23404edf9b470a02d17cccc88d09e22518e6a", func := "ratchet/ratchetlaw01.LebShort", spec := "lebShort", unfollowed := true, recurses := true, apart := false }
def LebShortSaid : Prop := lebShortRow.holds Try.pinned (OpenSpec.ofChange lebShortSpec)

/-- ITS FALSE NEIGHBOUR: 'it returns false'. Refute it at one input. -/
def lebShortWrong : ChangeSpec := { name := "lebShort", fn := fun _ => fun
  | [d1, d2] => { results := [.lit (.bool false)], args := [d1, d2] }
  | _ => none }
def LebShortWrongFalsely : Prop := lebShortRow.holds Try.pinned (OpenSpec.ofChange lebShortWrong)

/-- 'ratchetlaw21.MemoryCopies': WHATEVER THE INPUT: true; the input reads as it did. -/
def memoryCopiesSpec : ChangeSpec := { name := "memoryCopies", fn := fun _ => fun
  | [d1, d2, d3, d4] => { results := [.lit (.bool true)], args := [d1, d2, d3, d4] }
  | _ => none }
def memoryCopiesRow : OpenClaim := { program := "yteajikofpcnagaa", sum := "27d5d858962fb806b1217e7f33c23404edf9b470a02d17cccc88d09e22518e6a", func := "ratchet/ratchetlaw21.MemoryCopies", spec := "memoryCopies", apart := false }
def MemoryCopiesSaid : Prop := memoryCopiesRow.holds Try.pinned (OpenSpec.ofChange memoryCopiesSpec)

/-- ITS FALSE NEIGHBOUR: 'it returns false'. Refute it at one input. -/
def memoryCopiesWrong : ChangeSpec := { name := "memoryCopies", fn := fun _ => fun
  | [d1, d2, d3, d4] => { results := [.lit (.bool false)], args := [d1, d2, d3, d4] }
  | _ => none }
def MemoryCopiesWrongFalsely : Prop := memoryCopiesRow.holds Try.pinned (OpenSpec.ofChange memoryCopiesWrong)

/-- 'ratchetlaw01.LebReads': WHATEVER THE INPUT: true; the input reads as it did. -/
def lebReadsSpec : ChangeSpec := { name := "lebReads", fn := fun _ => fun
  | [d1, d2, d3] => { results := [.lit (.bool true)], args := [d1, d2, d3] }
  | _ => none }
def lebReadsRow : OpenClaim := { program := "yteajikofpcnagaa", sum := "27d5d858962fb806b1217e7f33c23404edf9b470a02d17cccc88d09e22518e6a", func := "ratchet/ratchetlaw01.LebReads", spec := "lebReads", unfollowed := true, recurses := true, apart := false }
def LebReadsSaid : Prop := lebReadsRow.holds Try.pinned (OpenSpec.ofChange lebReadsSpec)

/-- ITS FALSE NEIGHBOUR: 'it returns false'. Refute it at one input. -/
def lebReadsWrong : ChangeSpec := { name := "lebReads", fn := fun _ => fun
  | [d1, d2, d3] => { results := [.lit (.bool false)], args := [d1, d2, d3] }
  | _ => none }
def LebReadsWrongFalsely : Prop := lebReadsRow.holds Try.pinned (OpenSpec.ofChange lebReadsWrong)

/-- 'ratchetlaw01.LebNil': WHATEVER THE INPUT: true; the input reads as it did. -/
def lebNilSpec : ChangeSpec := { name := "lebNil", fn := fun _ => fun
  | [d] => { results := [.lit (.bool true)], args := [d] }
  | _ => none }
def lebNilRow : OpenClaim := { program := "yteajikofpcnagaa", sum := "27d5d858962fb806b1217e7f33c23404edf9b470a02d17cccc88d09e22518e6a", func := "ratchet/ratchetlaw01.LebNil", spec := "lebNil", unfollowed := true, recurses := true, apart := false }
def LebNilSaid : Prop := lebNilRow.holds Try.pinned (OpenSpec.ofChange lebNilSpec)

/-- ITS FALSE NEIGHBOUR: 'it returns false'. Refute it at one input. -/
def lebNilWrong : ChangeSpec := { name := "lebNil", fn := fun _ => fun
  | [d] => { results := [.lit (.bool false)], args := [d] }
  | _ => none }
def LebNilWrongFalsely : Prop := lebNilRow.holds Try.pinned (OpenSpec.ofChange lebNilWrong)

/-- 'ratchetlaw01.LebPlays': WHATEVER THE INPUT: true; the input reads as it did. -/
def lebPlaysSpec : ChangeSpec := { name := "lebPlays", fn := fun _ => fun
  | [d1, d2] => { results := [.lit (.bool true)], args := [d1, d2] }
  | _ => none }
def lebPlaysRow : OpenClaim := { program := "yteajikofpcnagaa", sum := "27d5d858962fb806b1217e7f33c23404edf9b470a02d17cccc88d09e22518e6a", func := "ratchet/ratchetlaw01.LebPlays", spec := "lebPlays", unfollowed := true, recurses := true, apart := false }
def LebPlaysSaid : Prop := lebPlaysRow.holds Try.pinned (OpenSpec.ofChange lebPlaysSpec)

/-- ITS FALSE NEIGHBOUR: 'it returns false'. Refute it at one input. -/
def lebPlaysWrong : ChangeSpec := { name := "lebPlays", fn := fun _ => fun
  | [d1, d2] => { results := [.lit (.bool false)], args := [d1, d2] }
  | _ => none }
def LebPlaysWrongFalsely : Prop := lebPlaysRow.holds Try.pinned (OpenSpec.ofChange lebPlaysWrong)

/- THE SECOND FORM. 'bulk': how many values and letters a reading holds, each counted each time it is reached (what is shared counts as often as it is met; a slice's spare places count too). A statement '..UptoSaid' is the law's where the arguments, and the package variables that the reading takes, are together of bulk at most 1048576: NARROWER than '..Said'. Prove '..Said' where nothing that the law and all that it calls make is longer than what came in: it says more and counts as full. Else prove '..UptoSaid'. A law counts once. -/
mutual
def uptoBulk {H : Type} : DataW H → Nat
  | .lit (.string bytes) => bytes.length + 1
  | .lit _ => 1
  | .nil => 1
  | .ptr d => uptoBulk d + 1
  | .slice elems spare => uptoBulkAll elems + uptoBulkAll spare + 1
  | .agg parts => uptoBulkAll parts + 1
  | .iface _ d => uptoBulk d + 1
  | .map entries => uptoBulkEntries entries + 1
  | .held _ => 1
def uptoBulkAll {H : Type} : List (DataW H) → Nat
  | [] => 0
  | d :: r => uptoBulk d + uptoBulkAll r
def uptoBulkEntries {H : Type} : List (Lit × DataW H) → Nat
  | [] => 0
  | x :: r => uptoBulkEntry x + uptoBulkEntries r
def uptoBulkEntry {H : Type} : Lit × DataW H → Nat
  | (.string bytes, d) => bytes.length + uptoBulk d + 1
  | (_, d) => uptoBulk d + 1
 end
def uptoSmall : (H : Type) → List (DataW H) → Bool := fun _ ds => decide (uptoBulkAll ds ≤ 1048576)
def OpenSpec.upto (s : _root_.Go.ChangeSpec) : _root_.Go.OpenSpec := { _root_.Go.OpenSpec.ofChange s with cond := some uptoSmall }

/-- 'ratchetlaw01.LebWrites', WHERE WHAT IT READS IS OF BULK AT MOST 1048576: true; the input reads as it did. -/
def lebWritesUptoRow : OpenClaim := { program := "yteajikofpcnagaa", sum := "27d5d858962fb806b1217e7f33c23404edf9b470a02d17cccc88d09e22518e6a", func := "ratchet/ratchetlaw01.LebWrites", spec := "lebWrites", apart := false, narrowed := true }
def LebWritesUptoSaid : Prop := lebWritesUptoRow.holds Try.pinned (OpenSpec.upto lebWritesSpec)

/-- 'ratchetlaw21.MemoryGrows', WHERE WHAT IT READS IS OF BULK AT MOST 1048576: true; the input reads as it did. -/
def memoryGrowsUptoRow : OpenClaim := { program := "yteajikofpcnagaa", sum := "27d5d858962fb806b1217e7f33c23404edf9b470a02d17cccc88d09e22518e6a", func := "ratchet/ratchetlaw21.MemoryGrows", spec := "memoryGrows", apart := false, narrowed := true }
def MemoryGrowsUptoSaid : Prop := memoryGrowsUptoRow.holds Try.pinned (OpenSpec.upto memoryGrowsSpec)

/-- 'ratchetlaw01.LebWider', WHERE WHAT IT READS IS OF BULK AT MOST 1048576: true; the input reads as it did. -/
def lebWiderUptoRow : OpenClaim := { program := "yteajikofpcnagaa", sum := "27d5d858962fb806b1217e7f33c23404edf9b470a02d17cccc88d09e22518e6a", func := "ratchet/ratchetlaw01.LebWider", spec := "lebWider", unfollowed := true, recurses := true, apart := false, narrowed := true }
def LebWiderUptoSaid : Prop := lebWiderUptoRow.holds Try.pinned (OpenSpec.upto lebWiderSpec)

/-- 'ratchetlaw01.LebBack', WHERE WHAT IT READS IS OF BULK AT MOST 1048576: true; the input reads as it did. -/
def lebBackUptoRow : OpenClaim := { program := "yteajikofpcnagaa", sum := "27d5d858962fb806b1217e7f33c23404edf9b470a02d17cccc88d09e22518e6a", func := "ratchet/ratchetlaw01.LebBack", spec := "lebBack", unfollowed := true, recurses := true, apart := false, narrowed := true }
def LebBackUptoSaid : Prop := lebBackUptoRow.holds Try.pinned (OpenSpec.upto lebBackSpec)

/-- 'ratchetlaw01.LebShort', WHERE WHAT IT READS IS OF BULK AT MOST 1048576: true; the input reads as it did. -/
def lebShortUptoRow : OpenClaim := { program := "yteajikofpcnagaa", sum := "27d5d858962fb806b1217e7f33c23404edf9b470a02d17cccc88d09e22518e6a", func := "ratchet/ratchetlaw01.LebShort", spec := "lebShort", unfollowed := true, recurses := true, apart := false, narrowed := true }
def LebShortUptoSaid : Prop := lebShortUptoRow.holds Try.pinned (OpenSpec.upto lebShortSpec)

/-- 'ratchetlaw21.MemoryCopies', WHERE WHAT IT READS IS OF BULK AT MOST 1048576: true; the input reads as it did. -/
def memoryCopiesUptoRow : OpenClaim := { program := "yteajikofpcnagaa", sum := "27d5d858962fb806b1217e7f33c23404edf9b470a02d17cccc88d09e22518e6a", func := "ratchet/ratchetlaw21.MemoryCopies", spec := "memoryCopies", apart := false, narrowed := true }
def MemoryCopiesUptoSaid : Prop := memoryCopiesUptoRow.holds Try.pinned (OpenSpec.upto memoryCopiesSpec)

/-- 'ratchetlaw01.LebReads', WHERE WHAT IT READS IS OF BULK AT MOST 1048576: true; the input reads as it did. -/
def lebReadsUptoRow : OpenClaim := { program := "yteajikofpcnagaa", sum := "27d5d858962fb806b1217e7f33c23404edf9b470a02d17cccc88d09e22518e6a", func := "ratchet/ratchetlaw01.LebReads", spec := "lebReads", unfollowed := true, recurses := true, apart := false, narrowed := true }
def LebReadsUptoSaid : Prop := lebReadsUptoRow.holds Try.pinned (OpenSpec.upto lebReadsSpec)

/-- 'ratchetlaw01.LebNil', WHERE WHAT IT READS IS OF BULK AT MOST 1048576: true; the input reads as it did. -/
def lebNilUptoRow : OpenClaim := { program := "yteajikofpcnagaa", sum := "27d5d858962fb806b1217e7f33c23404edf9b470a02d17cccc88d09e22518e6a", func := "ratchet/ratchetlaw01.LebNil", spec := "lebNil", unfollowed := true, recurses := true, apart := false, narrowed := true }
def LebNilUptoSaid : Prop := lebNilUptoRow.holds Try.pinned (OpenSpec.upto lebNilSpec)

/-- 'ratchetlaw01.LebPlays', WHERE WHAT IT READS IS OF BULK AT MOST 1048576: true; the input reads as it did. -/
def lebPlaysUptoRow : OpenClaim := { program := "yteajikofpcnagaa", sum := "27d5d858962fb806b1217e7f33c23404edf9b470a02d17cccc88d09e22518e6a", func := "ratchet/ratchetlaw01.LebPlays", spec := "lebPlays", unfollowed := true, recurses := true, apart := false, narrowed := true }
def LebPlaysUptoSaid : Prop := lebPlaysUptoRow.holds Try.pinned (OpenSpec.upto lebPlaysSpec)

end Rows
end Go.Proofs.Yteajikofpcnagaa
