/- The plain law InstrOps. -/
import Derived.Test.YthidcpkcfoldmaaIX
import Derived.Test.YthidcpkcfoldmaaIns6
namespace Go.Proofs.Ythidcpkcfoldmaa.Pure
open Go.RowKit Go.Proofs.Ythidcpkcfoldmaa.Ins Go.Proofs.YthidcpkcfoldmaaW.PrintWords Go.Proofs.YthidcpkcfoldmaaW.PrintLast
theorem InstrOps : ratchetlaw09_InstrOps.Pure := fun a0 _ => ⟨5000, Go.Proofs.Ythidcpkcfoldmaa.IX.instrOps a0⟩
end Go.Proofs.Ythidcpkcfoldmaa.Pure
