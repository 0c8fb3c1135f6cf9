/-
  DERIVED. GIVEN WITH THE SEED: THE CARDS: each row of YtiamjepnlnjlfaaDoorRows.lean that lists a variable, with what it lists TIED to the program's text (the seventh form; the later family's looks); each row that meets fmt, with fmt's text TOLD by the authors' own Lean function (tested against real Go, not proved from fmt's source: count such statements apart). THE CARD IS WHAT COUNTS. Prove the row's statement (the work); the ties are given (YtiamjepnlnjlfaaDoorTie.lean); close each card by the builder's one call (the guide's Derived/Test/ToyasCard.lean, 'card_holds'). Laid BY PROGRAM, IN A SANDBOX (cutbox-door.mjs). By AI agents, Wed Nov 11 2026. No macro, syntax, notation, axiom, sorry.
-/
import Derived.Test.YtiamjepnlnjlfaaDoorRows
import GoSem.ClaimSeven
namespace Go.Proofs.YtiamjepnlnjlfaaDoor
namespace Rows

/-- THE TIED CARD OF 'ratchetlaw02.FrameJoins'. -/
def frameJoinsCard : Claim7 := { stood := { row := frameJoinsRow, standIns := [], harness := (true, "5d464719b080d10407d27333bc00ffa2fcaebac15b9256bfe12050993b8306d2"), looks := true }, kinds := [], alts := [], laidByText := true, laidKinds := [.data, .pinned], laidTests := true, laidLooks := .later }
def FrameJoinsCardSaid : Prop := Claim7.holds Tryd.pinned (.plain (OpenSpec.ofChange frameJoinsSpec)) frameJoinsCard

/-- THE TIED CARD OF 'ratchetlaw02.FrameSplits'. -/
def frameSplitsCard : Claim7 := { stood := { row := frameSplitsRow, standIns := [], harness := (true, "5d464719b080d10407d27333bc00ffa2fcaebac15b9256bfe12050993b8306d2"), looks := true }, kinds := [], alts := [], laidByText := true, laidKinds := [.data, .pinned], laidTests := true, laidLooks := .later }
def FrameSplitsCardSaid : Prop := Claim7.holds Tryd.pinned (.plain (OpenSpec.ofChange frameSplitsSpec)) frameSplitsCard

/-- THE TIED CARD OF 'ratchetlaw02.FrameFronts'. -/
def frameFrontsCard : Claim7 := { stood := { row := frameFrontsRow, standIns := [], harness := (true, "5d464719b080d10407d27333bc00ffa2fcaebac15b9256bfe12050993b8306d2"), looks := true }, kinds := [], alts := [], laidByText := true, laidKinds := [.data, .pinned], laidTests := true, laidLooks := .later }
def FrameFrontsCardSaid : Prop := Claim7.holds Tryd.pinned (.plain (OpenSpec.ofChange frameFrontsSpec)) frameFrontsCard

/-- THE TIED CARD OF 'ratchetlaw02.FrameNames'. -/
def frameNamesCard : Claim7 := { stood := { row := frameNamesRow, standIns := [], harness := (true, "5d464719b080d10407d27333bc00ffa2fcaebac15b9256bfe12050993b8306d2"), looks := true }, kinds := [], alts := [], laidByText := true, laidKinds := [.data, .pinned], laidTests := true, laidLooks := .later }
def FrameNamesCardSaid : Prop := Claim7.holds Tryd.pinned (.plain (OpenSpec.ofChange frameNamesSpec)) frameNamesCard

/-- THE TIED CARD OF 'ratchetlaw02.FrameText'. -/
def frameTextCard : Claim7 := { stood := { row := frameTextRow, standIns := [], harness := (true, "5d464719b080d10407d27333bc00ffa2fcaebac15b9256bfe12050993b8306d2"), looks := true }, kinds := [], alts := [], laidByText := true, laidKinds := [.data, .pinned], laidTests := true, laidLooks := .later }
def FrameTextCardSaid : Prop := Claim7.holds Tryd.pinned (.plain (OpenSpec.ofChange frameTextSpec)) frameTextCard

/-- THE TIED CARD OF 'ratchetlaw02.FrameBack'. -/
def frameBackCard : Claim7 := { stood := { row := frameBackRow, standIns := [], harness := (true, "5d464719b080d10407d27333bc00ffa2fcaebac15b9256bfe12050993b8306d2"), looks := true }, kinds := [], alts := [], laidByText := true, laidKinds := [.data, .pinned], laidTests := true, laidLooks := .later }
def FrameBackCardSaid : Prop := Claim7.holds Tryd.pinned (.plain (OpenSpec.ofChange frameBackSpec)) frameBackCard

/-- THE SECOND FORM's CARD OF 'ratchetlaw02.FrameJoins'. -/
def frameJoinsUptoCard : Claim7 := { stood := { row := frameJoinsUptoRow, standIns := [], harness := (true, "5d464719b080d10407d27333bc00ffa2fcaebac15b9256bfe12050993b8306d2"), looks := true }, kinds := [], alts := [], laidByText := true, laidKinds := [.data, .pinned], laidTests := true, laidLooks := .later }
def FrameJoinsUptoCardSaid : Prop := Claim7.holds Tryd.pinned (.plain (OpenSpec.upto frameJoinsSpec)) frameJoinsUptoCard

/-- THE SECOND FORM's CARD OF 'ratchetlaw02.FrameSplits'. -/
def frameSplitsUptoCard : Claim7 := { stood := { row := frameSplitsUptoRow, standIns := [], harness := (true, "5d464719b080d10407d27333bc00ffa2fcaebac15b9256bfe12050993b8306d2"), looks := true }, kinds := [], alts := [], laidByText := true, laidKinds := [.data, .pinned], laidTests := true, laidLooks := .later }
def FrameSplitsUptoCardSaid : Prop := Claim7.holds Tryd.pinned (.plain (OpenSpec.upto frameSplitsSpec)) frameSplitsUptoCard

/-- THE SECOND FORM's CARD OF 'ratchetlaw02.FrameFronts'. -/
def frameFrontsUptoCard : Claim7 := { stood := { row := frameFrontsUptoRow, standIns := [], harness := (true, "5d464719b080d10407d27333bc00ffa2fcaebac15b9256bfe12050993b8306d2"), looks := true }, kinds := [], alts := [], laidByText := true, laidKinds := [.data, .pinned], laidTests := true, laidLooks := .later }
def FrameFrontsUptoCardSaid : Prop := Claim7.holds Tryd.pinned (.plain (OpenSpec.upto frameFrontsSpec)) frameFrontsUptoCard

/-- THE SECOND FORM's CARD OF 'ratchetlaw02.FrameNames'. -/
def frameNamesUptoCard : Claim7 := { stood := { row := frameNamesUptoRow, standIns := [], harness := (true, "5d464719b080d10407d27333bc00ffa2fcaebac15b9256bfe12050993b8306d2"), looks := true }, kinds := [], alts := [], laidByText := true, laidKinds := [.data, .pinned], laidTests := true, laidLooks := .later }
def FrameNamesUptoCardSaid : Prop := Claim7.holds Tryd.pinned (.plain (OpenSpec.upto frameNamesSpec)) frameNamesUptoCard

/-- THE SECOND FORM's CARD OF 'ratchetlaw02.FrameText'. -/
def frameTextUptoCard : Claim7 := { stood := { row := frameTextUptoRow, standIns := [], harness := (true, "5d464719b080d10407d27333bc00ffa2fcaebac15b9256bfe12050993b8306d2"), looks := true }, kinds := [], alts := [], laidByText := true, laidKinds := [.data, .pinned], laidTests := true, laidLooks := .later }
def FrameTextUptoCardSaid : Prop := Claim7.holds Tryd.pinned (.plain (OpenSpec.upto frameTextSpec)) frameTextUptoCard

/-- THE SECOND FORM's CARD OF 'ratchetlaw02.FrameBack'. -/
def frameBackUptoCard : Claim7 := { stood := { row := frameBackUptoRow, standIns := [], harness := (true, "5d464719b080d10407d27333bc00ffa2fcaebac15b9256bfe12050993b8306d2"), looks := true }, kinds := [], alts := [], laidByText := true, laidKinds := [.data, .pinned], laidTests := true, laidLooks := .later }
def FrameBackUptoCardSaid : Prop := Claim7.holds Tryd.pinned (.plain (OpenSpec.upto frameBackSpec)) frameBackUptoCard
end Rows
end Go.Proofs.YtiamjepnlnjlfaaDoor
