/- The lists of instructions, piece d, by computation. -/
import Derived.Test.YthidcpkcfoldmaaIU
namespace Go.Proofs.Ythidcpkcfoldmaa.IU
set_option maxRecDepth 1000000 in
theorem piece_d : chk2 (allP.drop 186) (opsR.drop 186) = true := by decide +kernel
set_option maxRecDepth 1000000 in
theorem len_lt : allP.length < 1000 := by decide +kernel
end Go.Proofs.Ythidcpkcfoldmaa.IU
