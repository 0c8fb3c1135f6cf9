/- Contracts of Go functions, one after the other: the call answers what the Lean function of the same name says, under the premises that each theorem names. Written by this session's own program (wip/tools/mp.py, over the kit's print, with changes of its own); Lean checks it. -/
import Derived.Test.YteajikofpcnagaaProg
import Derived.Below
import Derived.Deep.Draws
import Derived.Deep.AppendLies
import Derived.Maps.AppendAt
import Derived.OwnWalk
import Derived.Laws.BytesArg
import Derived.Laws.MakeOwn
import Derived.Laws.OwnMore
import Derived.Deep.OwnRows
import Derived.Tactics
import Derived.Lib.ConvBytes
import Derived.Laws.Slices
import Derived.WalkKit
import Derived.KernelRfl
import Derived.RowKit3
import Derived.Deep.LoopGhost
import Derived.Deep.QuietTactic
import Derived.BigQuiet
import Derived.WideLaws
import Derived.Deep.DeepCutAuto
import Derived.Deep.CutBlock
import Derived.Deep.RegionHeld3
import Derived.Laws.Rows
import Derived.Lib.AppendStr
import Derived.ArgAppend
import Derived.Laws.IdiomCopy
import Derived.OrdersHeld
import Derived.Laws.BitsLemmas
import Derived.RowKit
import Derived.Test.YteajikofpcnagaaWWords
import Derived.Test.YteajikofpcnagaaWLast
import Derived.Test.YteajikofpcnagaaWTab
import Derived.Test.YteajikofpcnagaaWFour
import Derived.Test.YteajikofpcnagaaWQPut
import Derived.Test.YteajikofpcnagaaWApart
import Derived.Test.YteajikofpcnagaaWArr
import Derived.Test.YteajikofpcnagaaWZeros
import Derived.Test.YteajikofpcnagaaWFoot
import Derived.Test.YteajikofpcnagaaWKept
import Derived.Test.YteajikofpcnagaaWShare
import Derived.Test.YteajikofpcnagaaWN
import Derived.Test.YteajikofpcnagaaWFootNe
import Derived.Test.YteajikofpcnagaaWAt
import Derived.Test.YteajikofpcnagaaWEqStruct
import Derived.Test.YteajikofpcnagaaWRepsOne
import Derived.Test.YteajikofpcnagaaWInv
import Derived.Test.YteajikofpcnagaaWInvWords
import Derived.Test.YteajikofpcnagaaWGuard
import Derived.Test.YteajikofpcnagaaWNEv
import Derived.Test.YteajikofpcnagaaWMore
namespace Go.Proofs.Yteajikofpcnagaa.Leb
open Go.RowKit Go.Proofs.YteajikofpcnagaaW.PrintWords Go.Proofs.YteajikofpcnagaaW.PrintLast Go.Proofs.YteajikofpcnagaaW.PrintMore
attribute [local go_sem] max2_int min2_int max_two min_two max_three min_three max_four min_four   -- for this text's walks alone
set_option linter.unusedVariables false
set_option linter.unusedSimpArgs false



def errW : Option Int → Value
  | none => .nilIface
  | some c => .iface 0 (.int .i64 c)
theorem errW_none : errW none = .nilIface := rfl
theorem errW_some (c : Int) : errW (some c) = .iface 0 (.int .i64 c) := rfl

theorem info5 : (Try.prog.info? 5).map (fun i => (i.zero, i.size, i.bytes)) = some (some (.int .u8 0), 1, 1) := by kernel_rfl
-- the values' own types

end Go.Proofs.Yteajikofpcnagaa.Leb
