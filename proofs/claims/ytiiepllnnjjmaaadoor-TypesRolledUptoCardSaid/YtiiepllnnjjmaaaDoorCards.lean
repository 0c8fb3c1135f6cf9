/-
  DERIVED. GIVEN WITH THE SEED: THE CARDS: each row of YtiiepllnnjjmaaaDoorRows.lean that lists a variable, with what it lists TIED to the program's text (the seventh form; the later family's looks); each row that meets fmt, with fmt's text TOLD by the authors' own Lean function (tested against real Go, not proved from fmt's source: count such statements apart). THE CARD IS WHAT COUNTS. Prove the row's statement (the work); the ties are given (YtiiepllnnjjmaaaDoorTie.lean); close each card by the builder's one call (the guide's Derived/Test/ToyasCard.lean, 'card_holds'). Laid BY PROGRAM, IN A SANDBOX (cutbox-door.mjs). By AI agents, Wed Nov 11 2026. No macro, syntax, notation, axiom, sorry.
-/
import Derived.Test.YtiiepllnnjjmaaaDoorRows
import GoSem.ClaimSeven
namespace Go.Proofs.YtiiepllnnjjmaaaDoor
namespace Rows

/-- THE TIED CARD OF 'ratchetlaw05.TypesSames'. -/
def typesSamesCard : Claim7 := { stood := { row := typesSamesRow, standIns := [], harness := (true, "16775cf66cb331eb98053afcab451299951d35290d28209cea2a1485fe8b3c2e"), looks := false }, kinds := [], alts := [], laidByText := true, laidKinds := [.data, .data, .data, .listed, .data], laidTests := true, laidLooks := .later }
def TypesSamesCardSaid : Prop := Claim7.holds Tryd.pinned (.plain (OpenSpec.ofChange typesSamesSpec)) typesSamesCard

/-- THE TIED CARD OF 'ratchetlaw05.TypesCounts'. -/
def typesCountsCard : Claim7 := { stood := { row := typesCountsRow, standIns := [], harness := (true, "16775cf66cb331eb98053afcab451299951d35290d28209cea2a1485fe8b3c2e"), looks := false }, kinds := [], alts := [], laidByText := true, laidKinds := [.data, .data, .data, .listed, .data], laidTests := true, laidLooks := .later }
def TypesCountsCardSaid : Prop := Claim7.holds Tryd.pinned (.plain (OpenSpec.ofChange typesCountsSpec)) typesCountsCard

/-- THE TIED CARD OF 'ratchetlaw05.TypesRolled'. -/
def typesRolledCard : Claim7 := { stood := { row := typesRolledRow, standIns := [], harness := (true, "16775cf66cb331eb98053afcab451299951d35290d28209cea2a1485fe8b3c2e"), looks := false }, kinds := [], alts := [], laidByText := true, laidKinds := [.data, .data, .data, .listed, .data], laidTests := true, laidLooks := .later }
def TypesRolledCardSaid : Prop := Claim7.holds Tryd.pinned (.plain (OpenSpec.ofChange typesRolledSpec)) typesRolledCard

/-- THE SECOND FORM's CARD OF 'ratchetlaw05.TypesSames'. -/
def typesSamesUptoCard : Claim7 := { stood := { row := typesSamesUptoRow, standIns := [], harness := (true, "16775cf66cb331eb98053afcab451299951d35290d28209cea2a1485fe8b3c2e"), looks := false }, kinds := [], alts := [], laidByText := true, laidKinds := [.data, .data, .data, .listed, .data], laidTests := true, laidLooks := .later }
def TypesSamesUptoCardSaid : Prop := Claim7.holds Tryd.pinned (.plain (OpenSpec.upto typesSamesSpec)) typesSamesUptoCard

/-- THE SECOND FORM's CARD OF 'ratchetlaw05.TypesCounts'. -/
def typesCountsUptoCard : Claim7 := { stood := { row := typesCountsUptoRow, standIns := [], harness := (true, "16775cf66cb331eb98053afcab451299951d35290d28209cea2a1485fe8b3c2e"), looks := false }, kinds := [], alts := [], laidByText := true, laidKinds := [.data, .data, .data, .listed, .data], laidTests := true, laidLooks := .later }
def TypesCountsUptoCardSaid : Prop := Claim7.holds Tryd.pinned (.plain (OpenSpec.upto typesCountsSpec)) typesCountsUptoCard

/-- THE SECOND FORM's CARD OF 'ratchetlaw05.TypesRolled'. -/
def typesRolledUptoCard : Claim7 := { stood := { row := typesRolledUptoRow, standIns := [], harness := (true, "16775cf66cb331eb98053afcab451299951d35290d28209cea2a1485fe8b3c2e"), looks := false }, kinds := [], alts := [], laidByText := true, laidKinds := [.data, .data, .data, .listed, .data], laidTests := true, laidLooks := .later }
def TypesRolledUptoCardSaid : Prop := Claim7.holds Tryd.pinned (.plain (OpenSpec.upto typesRolledSpec)) typesRolledUptoCard
end Rows
end Go.Proofs.YtiiepllnnjjmaaaDoor
