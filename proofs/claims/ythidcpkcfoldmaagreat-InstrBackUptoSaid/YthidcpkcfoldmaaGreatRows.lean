/-
  NARROWER THAN 'FOR EVERY INPUT', by the rows' own cells (each row's printed sentence says how): InstrBack: loops.
  DERIVED. THE GIVEN ROWS OF THIS SEAT. 3 by the template 'for every input the law returns true; each argument reads behind the call as it read before'; 0 by the template 'total and deterministic' (their statements: YthidcpkcfoldmaaGreatTotals.lean).
  GIVEN WITH THE SEED: the statements are not yours to turn. If you find one false, say at which input.
  Laid BY PROGRAM, IN A SANDBOX (cutbox-rows.mjs): the forced cells as the released guide's own fill.sh prints them over the translation e931b12eeb132c90… (all of the seat's roots in one cut). By AI agents, Wed Nov 11 2026. No macro, syntax, notation, axiom, sorry.
-/
import Derived.Test.YthidcpkcfoldmaaGreatChecked
import GoSem.Claim
import GoSem.ClaimJoined
import GoSem.ClaimMapViews
import Derived.JoinedTies
import Derived.KernelRfl
namespace Go.Proofs.YthidcpkcfoldmaaGreat
/- THE CELL 'sum', in the pinned program and in every row, IS THE sha256 OF THE DUMP (.gsa) THAT YthidcpkcfoldmaaGreatProg.lean LOADS. Nothing in Lean hashes anything: it is a label: what it is worth is what the hold of that sum in a sandbox is worth. -/
noncomputable def Tryz.pinned : Pinned := { name := "ythidcpkcfoldmaagreat", sum := "e931b12eeb132c903de2af407cf39931413974932e2a22e2bd75d8320c816081", checked := Tryz.checked }
namespace Rows
def none {H : Type} : Left H := { results := [], args := [] }

/-- 'ratchetlaw09.InstrReads': WHATEVER THE INPUT: true; the input reads as it did. -/
def instrReadsSpec : ChangeSpec := { name := "instrReads", fn := fun _ => fun
  | [d1, d2] => { results := [.lit (.bool true)], args := [d1, d2] }
  | _ => none }
def instrReadsRow : OpenClaim := { program := "ythidcpkcfoldmaagreat", sum := "e931b12eeb132c903de2af407cf39931413974932e2a22e2bd75d8320c816081", func := "ratchet/ratchetlaw09.InstrReads", spec := "instrReads", unfollowed := true, recurses := true, apart := false }
def InstrReadsSaid : Prop := instrReadsRow.holds Tryz.pinned (OpenSpec.ofChange instrReadsSpec)

/-- ITS FALSE NEIGHBOUR: 'it returns false'. Refute it at one input. -/
def instrReadsWrong : ChangeSpec := { name := "instrReads", fn := fun _ => fun
  | [d1, d2] => { results := [.lit (.bool false)], args := [d1, d2] }
  | _ => none }
def InstrReadsWrongFalsely : Prop := instrReadsRow.holds Tryz.pinned (OpenSpec.ofChange instrReadsWrong)

/-- 'ratchetlaw09.InstrBack': WHATEVER THE INPUT: true; the input reads as it did. -/
def instrBackSpec : ChangeSpec := { name := "instrBack", fn := fun _ => fun
  | [d1, d2, d3] => { results := [.lit (.bool true)], args := [d1, d2, d3] }
  | _ => none }
def instrBackRow : OpenClaim := { program := "ythidcpkcfoldmaagreat", sum := "e931b12eeb132c903de2af407cf39931413974932e2a22e2bd75d8320c816081", func := "ratchet/ratchetlaw09.InstrBack", spec := "instrBack", unfollowed := true, recurses := true, loops := true, apart := false }
def InstrBackSaid : Prop := instrBackRow.holds Tryz.pinned (OpenSpec.ofChange instrBackSpec)

/-- ITS FALSE NEIGHBOUR: 'it returns false'. Refute it at one input. -/
def instrBackWrong : ChangeSpec := { name := "instrBack", fn := fun _ => fun
  | [d1, d2, d3] => { results := [.lit (.bool false)], args := [d1, d2, d3] }
  | _ => none }
def InstrBackWrongFalsely : Prop := instrBackRow.holds Tryz.pinned (OpenSpec.ofChange instrBackWrong)

/-- 'ratchetlaw09.InstrLeast': WHATEVER THE INPUT: true; the input reads as it did. -/
def instrLeastSpec : ChangeSpec := { name := "instrLeast", fn := fun _ => fun
  | [d1, d2] => { results := [.lit (.bool true)], args := [d1, d2] }
  | _ => none }
def instrLeastRow : OpenClaim := { program := "ythidcpkcfoldmaagreat", sum := "e931b12eeb132c903de2af407cf39931413974932e2a22e2bd75d8320c816081", func := "ratchet/ratchetlaw09.InstrLeast", spec := "instrLeast", unfollowed := true, recurses := true, apart := false }
def InstrLeastSaid : Prop := instrLeastRow.holds Tryz.pinned (OpenSpec.ofChange instrLeastSpec)

/-- ITS FALSE NEIGHBOUR: 'it returns false'. Refute it at one input. -/
def instrLeastWrong : ChangeSpec := { name := "instrLeast", fn := fun _ => fun
  | [d1, d2] => { results := [.lit (.bool false)], args := [d1, d2] }
  | _ => none }
def InstrLeastWrongFalsely : Prop := instrLeastRow.holds Tryz.pinned (OpenSpec.ofChange instrLeastWrong)

/- THE SECOND FORM. 'bulk': how many values and letters a reading holds, each counted each time it is reached (what is shared counts as often as it is met; a slice's spare places count too). A statement '..UptoSaid' is the law's where the arguments, and the package variables that the reading takes, are together of bulk at most 1048576: NARROWER than '..Said'. Prove '..Said' where nothing that the law and all that it calls make is longer than what came in: it says more and counts as full. Else prove '..UptoSaid'. A law counts once. -/
mutual
def uptoBulk {H : Type} : DataW H → Nat
  | .lit (.string bytes) => bytes.length + 1
  | .lit _ => 1
  | .nil => 1
  | .ptr d => uptoBulk d + 1
  | .slice elems spare => uptoBulkAll elems + uptoBulkAll spare + 1
  | .agg parts => uptoBulkAll parts + 1
  | .iface _ d => uptoBulk d + 1
  | .map entries => uptoBulkEntries entries + 1
  | .held _ => 1
def uptoBulkAll {H : Type} : List (DataW H) → Nat
  | [] => 0
  | d :: r => uptoBulk d + uptoBulkAll r
def uptoBulkEntries {H : Type} : List (Lit × DataW H) → Nat
  | [] => 0
  | x :: r => uptoBulkEntry x + uptoBulkEntries r
def uptoBulkEntry {H : Type} : Lit × DataW H → Nat
  | (.string bytes, d) => bytes.length + uptoBulk d + 1
  | (_, d) => uptoBulk d + 1
 end
def uptoSmall : (H : Type) → List (DataW H) → Bool := fun _ ds => decide (uptoBulkAll ds ≤ 1048576)
def OpenSpec.upto (s : _root_.Go.ChangeSpec) : _root_.Go.OpenSpec := { _root_.Go.OpenSpec.ofChange s with cond := some uptoSmall }

/-- 'ratchetlaw09.InstrReads', WHERE WHAT IT READS IS OF BULK AT MOST 1048576: true; the input reads as it did. -/
def instrReadsUptoRow : OpenClaim := { program := "ythidcpkcfoldmaagreat", sum := "e931b12eeb132c903de2af407cf39931413974932e2a22e2bd75d8320c816081", func := "ratchet/ratchetlaw09.InstrReads", spec := "instrReads", unfollowed := true, recurses := true, apart := false, narrowed := true }
def InstrReadsUptoSaid : Prop := instrReadsUptoRow.holds Tryz.pinned (OpenSpec.upto instrReadsSpec)

/-- 'ratchetlaw09.InstrBack', WHERE WHAT IT READS IS OF BULK AT MOST 1048576: true; the input reads as it did. -/
def instrBackUptoRow : OpenClaim := { program := "ythidcpkcfoldmaagreat", sum := "e931b12eeb132c903de2af407cf39931413974932e2a22e2bd75d8320c816081", func := "ratchet/ratchetlaw09.InstrBack", spec := "instrBack", unfollowed := true, recurses := true, loops := true, apart := false, narrowed := true }
def InstrBackUptoSaid : Prop := instrBackUptoRow.holds Tryz.pinned (OpenSpec.upto instrBackSpec)

/-- 'ratchetlaw09.InstrLeast', WHERE WHAT IT READS IS OF BULK AT MOST 1048576: true; the input reads as it did. -/
def instrLeastUptoRow : OpenClaim := { program := "ythidcpkcfoldmaagreat", sum := "e931b12eeb132c903de2af407cf39931413974932e2a22e2bd75d8320c816081", func := "ratchet/ratchetlaw09.InstrLeast", spec := "instrLeast", unfollowed := true, recurses := true, apart := false, narrowed := true }
def InstrLeastUptoSaid : Prop := instrLeastUptoRow.holds Tryz.pinned (OpenSpec.upto instrLeastSpec)

end Rows
end Go.Proofs.YthidcpkcfoldmaaGreat
