/- The lists of instructions, piece a, by computation. -/
import Derived.Test.YthidcpkcfoldmaaIU
namespace Go.Proofs.Ythidcpkcfoldmaa.IU
set_option maxRecDepth 1000000 in
theorem piece_a : chk2 (allP.take 62) (opsR.take 62) = true := by decide +kernel
end Go.Proofs.Ythidcpkcfoldmaa.IU
