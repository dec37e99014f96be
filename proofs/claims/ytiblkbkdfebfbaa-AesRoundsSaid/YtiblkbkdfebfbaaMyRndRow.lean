/- AesRounds as the row asks for it. No conditions. -/
import Derived.Test.YtiblkbkdfebfbaaMyRnd
namespace Go.Proofs.Ytiblkbkdfebfbaa.Aes
open Go.RowKit
theorem rounds_law (d : ByteArray) (W : World) (_ : d.size ≤ 140737488351232) : Calls Try.prog 4 #[.string d] W fun e W' => e = .returned (.bool true) ∧ Below W.heap.size W W' := rounds_row d W
end Go.Proofs.Ytiblkbkdfebfbaa.Aes
