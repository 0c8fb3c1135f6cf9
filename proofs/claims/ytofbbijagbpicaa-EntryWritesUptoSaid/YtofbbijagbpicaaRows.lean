/-
  No cell of these rows narrows 'for every input' (looked for: loops, veiled, ifaces, maps, wideKeys, modest, calm, conditions, laid).
  DERIVED. THE GIVEN ROWS OF THIS SEAT. 4 by the template 'for every input the law returns true; each argument reads behind the call as it read before'; 0 by the template 'total and deterministic' (their statements: YtofbbijagbpicaaTotals.lean).
  GIVEN WITH THE SEED: the statements are not yours to turn. If you find one false, say at which input.
  Laid BY PROGRAM, IN A SANDBOX (cutbox-rows.mjs): the forced cells as the released guide's own fill.sh prints them over the translation fc059e70706ce702… (all of the seat's roots in one cut). By AI agents, Wed Nov 11 2026. No macro, syntax, notation, axiom, sorry.
-/
import Derived.Test.YtofbbijagbpicaaChecked
import GoSem.Claim
import GoSem.ClaimJoined
import GoSem.ClaimMapViews
import Derived.JoinedTies
import Derived.KernelRfl
namespace Go.Proofs.Ytofbbijagbpicaa
/- THE CELL 'sum', in the pinned program and in every row, IS THE sha256 OF THE DUMP (.gsa) THAT YtofbbijagbpicaaProg.lean LOADS. Nothing in Lean hashes anything: it is a label: what it is worth is what the hold of that sum in a sandbox is worth. -/
noncomputable def Try.pinned : Pinned := { name := "ytofbbijagbpicaa", sum := "fc059e70706ce702a2c4d3e0338f94682ba0d7005d8230fa56c6c17545d5f99d", checked := Try.checked }
namespace Rows
def none {H : Type} : Left H := { results := [], args := [] }

/-- 'ratchetlaw08.EntryWrites': WHATEVER THE INPUT: true; the input reads as it did. -/
def entryWritesSpec : ChangeSpec := { name := "entryWrites", fn := fun _ => fun
  | [d1, d2, d3, d4, d5] => { results := [.lit (.bool true)], args := [d1, d2, d3, d4, d5] }
  | _ => none }
def entryWritesRow : OpenClaim := { program := "ytofbbijagbpicaa", sum := "fc059e70706ce702a2c4d3e0338f94682ba0d7005d8230fa56c6c17545d5f99d", func := "ratchet/ratchetlaw08.EntryWrites", spec := "entryWrites", unfollowed := true, recurses := true, apart := false }
def EntryWritesSaid : Prop := entryWritesRow.holds Try.pinned (OpenSpec.ofChange entryWritesSpec)

/-- ITS FALSE NEIGHBOUR: 'it returns false'. Refute it at one input. -/
def entryWritesWrong : ChangeSpec := { name := "entryWrites", fn := fun _ => fun
  | [d1, d2, d3, d4, d5] => { results := [.lit (.bool false)], args := [d1, d2, d3, d4, d5] }
  | _ => none }
def EntryWritesWrongFalsely : Prop := entryWritesRow.holds Try.pinned (OpenSpec.ofChange entryWritesWrong)

/-- 'ratchetlaw08.EntryTypes': WHATEVER THE INPUT: true; the input reads as it did. -/
def entryTypesSpec : ChangeSpec := { name := "entryTypes", fn := fun _ => fun
  | [d1, d2] => { results := [.lit (.bool true)], args := [d1, d2] }
  | _ => none }
def entryTypesRow : OpenClaim := { program := "ytofbbijagbpicaa", sum := "fc059e70706ce702a2c4d3e0338f94682ba0d7005d8230fa56c6c17545d5f99d", func := "ratchet/ratchetlaw08.EntryTypes", spec := "entryTypes", unfollowed := true, recurses := true, apart := false }
def EntryTypesSaid : Prop := entryTypesRow.holds Try.pinned (OpenSpec.ofChange entryTypesSpec)

/-- ITS FALSE NEIGHBOUR: 'it returns false'. Refute it at one input. -/
def entryTypesWrong : ChangeSpec := { name := "entryTypes", fn := fun _ => fun
  | [d1, d2] => { results := [.lit (.bool false)], args := [d1, d2] }
  | _ => none }
def EntryTypesWrongFalsely : Prop := entryTypesRow.holds Try.pinned (OpenSpec.ofChange entryTypesWrong)

/-- 'ratchetlaw08.EntryGroups': WHATEVER THE INPUT: true; the input reads as it did. -/
def entryGroupsSpec : ChangeSpec := { name := "entryGroups", fn := fun _ => fun
  | [d1, d2] => { results := [.lit (.bool true)], args := [d1, d2] }
  | _ => none }
def entryGroupsRow : OpenClaim := { program := "ytofbbijagbpicaa", sum := "fc059e70706ce702a2c4d3e0338f94682ba0d7005d8230fa56c6c17545d5f99d", func := "ratchet/ratchetlaw08.EntryGroups", spec := "entryGroups", unfollowed := true, recurses := true, apart := false }
def EntryGroupsSaid : Prop := entryGroupsRow.holds Try.pinned (OpenSpec.ofChange entryGroupsSpec)

/-- ITS FALSE NEIGHBOUR: 'it returns false'. Refute it at one input. -/
def entryGroupsWrong : ChangeSpec := { name := "entryGroups", fn := fun _ => fun
  | [d1, d2] => { results := [.lit (.bool false)], args := [d1, d2] }
  | _ => none }
def EntryGroupsWrongFalsely : Prop := entryGroupsRow.holds Try.pinned (OpenSpec.ofChange entryGroupsWrong)

/-- 'ratchetlaw08.EntryLeast': WHATEVER THE INPUT: true; the input reads as it did. -/
def entryLeastSpec : ChangeSpec := { name := "entryLeast", fn := fun _ => fun
  | [d1, d2] => { results := [.lit (.bool true)], args := [d1, d2] }
  | _ => none }
def entryLeastRow : OpenClaim := { program := "ytofbbijagbpicaa", sum := "fc059e70706ce702a2c4d3e0338f94682ba0d7005d8230fa56c6c17545d5f99d", func := "ratchet/ratchetlaw08.EntryLeast", spec := "entryLeast", unfollowed := true, recurses := true, apart := false }
def EntryLeastSaid : Prop := entryLeastRow.holds Try.pinned (OpenSpec.ofChange entryLeastSpec)

/-- ITS FALSE NEIGHBOUR: 'it returns false'. Refute it at one input. -/
def entryLeastWrong : ChangeSpec := { name := "entryLeast", fn := fun _ => fun
  | [d1, d2] => { results := [.lit (.bool false)], args := [d1, d2] }
  | _ => none }
def EntryLeastWrongFalsely : Prop := entryLeastRow.holds Try.pinned (OpenSpec.ofChange entryLeastWrong)

/- THE SECOND FORM. 'bulk': how many values and letters a reading holds, each counted each time it is reached (what is shared counts as often as it is met; a slice's spare places count too). A statement '..UptoSaid' is the law's where the arguments, and the package variables that the reading takes, are together of bulk at most 1048576: NARROWER than '..Said'. Prove '..Said' where nothing that the law and all that it calls make is longer than what came in: it says more and counts as full. Else prove '..UptoSaid'. A law counts once. -/
mutual
def uptoBulk {H : Type} : DataW H → Nat
  | .lit (.string bytes) => bytes.length + 1
  | .lit _ => 1
  | .nil => 1
  | .ptr d => uptoBulk d + 1
  | .slice elems spare => uptoBulkAll elems + uptoBulkAll spare + 1
  | .agg parts => uptoBulkAll parts + 1
  | .iface _ d => uptoBulk d + 1
  | .map entries => uptoBulkEntries entries + 1
  | .held _ => 1
def uptoBulkAll {H : Type} : List (DataW H) → Nat
  | [] => 0
  | d :: r => uptoBulk d + uptoBulkAll r
def uptoBulkEntries {H : Type} : List (Lit × DataW H) → Nat
  | [] => 0
  | x :: r => uptoBulkEntry x + uptoBulkEntries r
def uptoBulkEntry {H : Type} : Lit × DataW H → Nat
  | (.string bytes, d) => bytes.length + uptoBulk d + 1
  | (_, d) => uptoBulk d + 1
 end
def uptoSmall : (H : Type) → List (DataW H) → Bool := fun _ ds => decide (uptoBulkAll ds ≤ 1048576)
def OpenSpec.upto (s : _root_.Go.ChangeSpec) : _root_.Go.OpenSpec := { _root_.Go.OpenSpec.ofChange s with cond := some uptoSmall }

/-- 'ratchetlaw08.EntryWrites', WHERE WHAT IT READS IS OF BULK AT MOST 1048576: true; the input reads as it did. -/
def entryWritesUptoRow : OpenClaim := { program := "ytofbbijagbpicaa", sum := "fc059e70706ce702a2c4d3e0338f94682ba0d7005d8230fa56c6c17545d5f99d", func := "ratchet/ratchetlaw08.EntryWrites", spec := "entryWrites", unfollowed := true, recurses := true, apart := false, narrowed := true }
def EntryWritesUptoSaid : Prop := entryWritesUptoRow.holds Try.pinned (OpenSpec.upto entryWritesSpec)

/-- 'ratchetlaw08.EntryTypes', WHERE WHAT IT READS IS OF BULK AT MOST 1048576: true; the input reads as it did. -/
def entryTypesUptoRow : OpenClaim := { program := "ytofbbijagbpicaa", sum := "fc059e70706ce702a2c4d3e0338f94682ba0d7005d8230fa56c6c17545d5f99d", func := "ratchet/ratchetlaw08.EntryTypes", spec := "entryTypes", unfollowed := true, recurses := true, apart := false, narrowed := true }
def EntryTypesUptoSaid : Prop := entryTypesUptoRow.holds Try.pinned (OpenSpec.upto entryTypesSpec)

/-- 'ratchetlaw08.EntryGroups', WHERE WHAT IT READS IS OF BULK AT MOST 1048576: true; the input reads as it did. -/
def entryGroupsUptoRow : OpenClaim := { program := "ytofbbijagbpicaa", sum := "fc059e70706ce702a2c4d3e0338f94682ba0d7005d8230fa56c6c17545d5f99d", func := "ratchet/ratchetlaw08.EntryGroups", spec := "entryGroups", unfollowed := true, recurses := true, apart := false, narrowed := true }
def EntryGroupsUptoSaid : Prop := entryGroupsUptoRow.holds Try.pinned (OpenSpec.upto entryGroupsSpec)

/-- 'ratchetlaw08.EntryLeast', WHERE WHAT IT READS IS OF BULK AT MOST 1048576: true; the input reads as it did. -/
def entryLeastUptoRow : OpenClaim := { program := "ytofbbijagbpicaa", sum := "fc059e70706ce702a2c4d3e0338f94682ba0d7005d8230fa56c6c17545d5f99d", func := "ratchet/ratchetlaw08.EntryLeast", spec := "entryLeast", unfollowed := true, recurses := true, apart := false, narrowed := true }
def EntryLeastUptoSaid : Prop := entryLeastUptoRow.holds Try.pinned (OpenSpec.upto entryLeastSpec)

end Rows
end Go.Proofs.Ytofbbijagbpicaa
