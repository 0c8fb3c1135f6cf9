/-
  DERIVED. GIVEN WITH THE SEED: THE CARDS: each row of YthnmienjiangkaaDoorRows.lean that lists a variable, with what it lists TIED to the program's text (the seventh form; the later family's looks); each row that meets fmt, with fmt's text TOLD by the authors' own Lean function (tested against real Go, not proved from fmt's source: count such statements apart). THE CARD IS WHAT COUNTS. Prove the row's statement (the work); the ties are given (YthnmienjiangkaaDoorTie.lean); close each card by the builder's one call (the guide's Derived/Test/ToyasCard.lean, 'card_holds'). Laid BY PROGRAM, IN A SANDBOX (cutbox-door.mjs). By AI agents, Wed Nov 11 2026. No macro, syntax, notation, axiom, sorry.
-/
import Derived.Test.YthnmienjiangkaaDoorRows
import GoSem.ClaimSeven
namespace Go.Proofs.YthnmienjiangkaaDoor
namespace Rows

/-- THE TIED CARD OF 'ratchetlaw08.EntryPuts'. -/
def entryPutsCard : Claim7 := { stood := { row := entryPutsRow, standIns := [], harness := (true, "4d28f8885f6e7ef283fd73888c731bca28db2968a8ddef7012df7b45a35accc4"), looks := true }, kinds := [], alts := [], laidByText := true, laidKinds := [.data, .pinned], laidTests := true, laidLooks := .later }
def EntryPutsCardSaid : Prop := Claim7.holds Tryd.pinned (.plain (OpenSpec.ofChange entryPutsSpec)) entryPutsCard

/-- THE SECOND FORM's CARD OF 'ratchetlaw08.EntryPuts'. -/
def entryPutsUptoCard : Claim7 := { stood := { row := entryPutsUptoRow, standIns := [], harness := (true, "4d28f8885f6e7ef283fd73888c731bca28db2968a8ddef7012df7b45a35accc4"), looks := true }, kinds := [], alts := [], laidByText := true, laidKinds := [.data, .pinned], laidTests := true, laidLooks := .later }
def EntryPutsUptoCardSaid : Prop := Claim7.holds Tryd.pinned (.plain (OpenSpec.upto entryPutsSpec)) entryPutsUptoCard
end Rows
end Go.Proofs.YthnmienjiangkaaDoor
