/-
  DERIVED. GIVEN WITH THE SEED: THE CARDS: each row of YtjcffopjohkmaaaDoorRows.lean that lists a variable, with what it lists TIED to the program's text (the seventh form; the later family's looks); each row that meets fmt, with fmt's text TOLD by the authors' own Lean function (tested against real Go, not proved from fmt's source: count such statements apart). THE CARD IS WHAT COUNTS. Prove the row's statement (the work); the ties are given (YtjcffopjohkmaaaDoorTie.lean); close each card by the builder's one call (the guide's Derived/Test/ToyasCard.lean, 'card_holds'). Laid BY PROGRAM, IN A SANDBOX (cutbox-door.mjs). By AI agents, Wed Nov 11 2026. No macro, syntax, notation, axiom, sorry.
-/
import Derived.Test.YtjcffopjohkmaaaDoorRows
import GoSem.ClaimSeven
namespace Go.Proofs.YtjcffopjohkmaaaDoor
namespace Rows

/-- THE TIED CARD OF 'ratchetlaw21.MemoryBack'. -/
def memoryBackCard : Claim7 := { stood := { row := memoryBackRow, standIns := [], harness := (true, "dc6b389d91a40459177983705fd41afa0ae599996a82dcf2ebb5cce6c162afbc"), looks := true }, kinds := [], alts := [], laidByText := true, laidKinds := [.data, .data, .data, .sentinel, .sentinel], laidTests := true, laidLooks := .later }
def MemoryBackCardSaid : Prop := Claim7.holds Tryd.pinned (.plain (OpenSpec.ofChange memoryBackSpec)) memoryBackCard

/-- THE TIED CARD OF 'ratchetlaw21.MemoryZero'. -/
def memoryZeroCard : Claim7 := { stood := { row := memoryZeroRow, standIns := [], harness := (true, "dc6b389d91a40459177983705fd41afa0ae599996a82dcf2ebb5cce6c162afbc"), looks := true }, kinds := [], alts := [], laidByText := true, laidKinds := [.data, .data, .data, .sentinel, .sentinel], laidTests := true, laidLooks := .later }
def MemoryZeroCardSaid : Prop := Claim7.holds Tryd.pinned (.plain (OpenSpec.ofChange memoryZeroSpec)) memoryZeroCard

/-- THE SECOND FORM's CARD OF 'ratchetlaw21.MemoryBack'. -/
def memoryBackUptoCard : Claim7 := { stood := { row := memoryBackUptoRow, standIns := [], harness := (true, "dc6b389d91a40459177983705fd41afa0ae599996a82dcf2ebb5cce6c162afbc"), looks := true }, kinds := [], alts := [], laidByText := true, laidKinds := [.data, .data, .data, .sentinel, .sentinel], laidTests := true, laidLooks := .later }
def MemoryBackUptoCardSaid : Prop := Claim7.holds Tryd.pinned (.plain (OpenSpec.upto memoryBackSpec)) memoryBackUptoCard

/-- THE SECOND FORM's CARD OF 'ratchetlaw21.MemoryZero'. -/
def memoryZeroUptoCard : Claim7 := { stood := { row := memoryZeroUptoRow, standIns := [], harness := (true, "dc6b389d91a40459177983705fd41afa0ae599996a82dcf2ebb5cce6c162afbc"), looks := true }, kinds := [], alts := [], laidByText := true, laidKinds := [.data, .data, .data, .sentinel, .sentinel], laidTests := true, laidLooks := .later }
def MemoryZeroUptoCardSaid : Prop := Claim7.holds Tryd.pinned (.plain (OpenSpec.upto memoryZeroSpec)) memoryZeroUptoCard
end Rows
end Go.Proofs.YtjcffopjohkmaaaDoor
