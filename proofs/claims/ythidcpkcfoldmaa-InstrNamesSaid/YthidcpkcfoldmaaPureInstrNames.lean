/- The plain law InstrNames. -/
import Derived.Test.YthidcpkcfoldmaaIV
import Derived.Test.YthidcpkcfoldmaaIns5
namespace Go.Proofs.Ythidcpkcfoldmaa.Pure
open Go.RowKit Go.Proofs.Ythidcpkcfoldmaa.Ins
theorem InstrNames : ratchetlaw09_InstrNames.Pure := fun a0 a1 _ _ => ⟨5001, Go.Proofs.Ythidcpkcfoldmaa.IV.instrNames a0 a1⟩
end Go.Proofs.Ythidcpkcfoldmaa.Pure
