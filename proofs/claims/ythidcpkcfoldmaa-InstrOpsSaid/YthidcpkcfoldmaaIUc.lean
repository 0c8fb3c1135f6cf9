/- The lists of instructions, piece c, by computation. -/
import Derived.Test.YthidcpkcfoldmaaIU
namespace Go.Proofs.Ythidcpkcfoldmaa.IU
set_option maxRecDepth 1000000 in
theorem piece_c : chk2 ((allP.drop 124).take 62) ((opsR.drop 124).take 62) = true := by decide +kernel
end Go.Proofs.Ythidcpkcfoldmaa.IU
