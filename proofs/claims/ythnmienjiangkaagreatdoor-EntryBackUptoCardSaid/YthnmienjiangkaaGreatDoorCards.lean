/-
  DERIVED. GIVEN WITH THE SEED: THE CARDS: each row of YthnmienjiangkaaGreatDoorRows.lean that lists a variable, with what it lists TIED to the program's text (the seventh form; the later family's looks); each row that meets fmt, with fmt's text TOLD by the authors' own Lean function (tested against real Go, not proved from fmt's source: count such statements apart). THE CARD IS WHAT COUNTS. Prove the row's statement (the work); the ties are given (YthnmienjiangkaaGreatDoorTie.lean); close each card by the builder's one call (the guide's Derived/Test/ToyasCard.lean, 'card_holds'). Laid BY PROGRAM, IN A SANDBOX (cutbox-door.mjs). By AI agents, Wed Nov 11 2026. No macro, syntax, notation, axiom, sorry.
-/
import Derived.Test.YthnmienjiangkaaGreatDoorRows
import GoSem.ClaimSeven
namespace Go.Proofs.YthnmienjiangkaaGreatDoor
namespace Rows

/-- THE TIED CARD OF 'ratchetlaw08.EntryRest'. -/
def entryRestCard : Claim7 := { stood := { row := entryRestRow, standIns := [], harness := (true, "9dd1e0af4c984319938131f14b4fdb2eabd6c9036462c67241daf8adb5b2dc6e"), looks := true }, kinds := [], alts := [], laidByText := true, laidKinds := [.data, .pinned], laidTests := true, laidLooks := .later }
def EntryRestCardSaid : Prop := Claim7.holds Tryz.pinned (.plain (OpenSpec.ofChange entryRestSpec)) entryRestCard

/-- THE TIED CARD OF 'ratchetlaw08.EntryBack'. -/
def entryBackCard : Claim7 := { stood := { row := entryBackRow, standIns := [], harness := (true, "9dd1e0af4c984319938131f14b4fdb2eabd6c9036462c67241daf8adb5b2dc6e"), looks := true }, kinds := [], alts := [], laidByText := true, laidKinds := [.data, .pinned], laidTests := true, laidLooks := .later }
def EntryBackCardSaid : Prop := Claim7.holds Tryz.pinned (.plain (OpenSpec.ofChange entryBackSpec)) entryBackCard

/-- THE SECOND FORM's CARD OF 'ratchetlaw08.EntryRest'. -/
def entryRestUptoCard : Claim7 := { stood := { row := entryRestUptoRow, standIns := [], harness := (true, "9dd1e0af4c984319938131f14b4fdb2eabd6c9036462c67241daf8adb5b2dc6e"), looks := true }, kinds := [], alts := [], laidByText := true, laidKinds := [.data, .pinned], laidTests := true, laidLooks := .later }
def EntryRestUptoCardSaid : Prop := Claim7.holds Tryz.pinned (.plain (OpenSpec.upto entryRestSpec)) entryRestUptoCard

/-- THE SECOND FORM's CARD OF 'ratchetlaw08.EntryBack'. -/
def entryBackUptoCard : Claim7 := { stood := { row := entryBackUptoRow, standIns := [], harness := (true, "9dd1e0af4c984319938131f14b4fdb2eabd6c9036462c67241daf8adb5b2dc6e"), looks := true }, kinds := [], alts := [], laidByText := true, laidKinds := [.data, .pinned], laidTests := true, laidLooks := .later }
def EntryBackUptoCardSaid : Prop := Claim7.holds Tryz.pinned (.plain (OpenSpec.upto entryBackSpec)) entryBackUptoCard
end Rows
end Go.Proofs.YthnmienjiangkaaGreatDoor
