/- AesApart as the row asks for it. No conditions. -/
import Derived.Test.YtiblkbkdfebfbaaMyApart
import Derived.Test.YtiblkbkdfebfbaaMyB16
namespace Go.Proofs.Ytiblkbkdfebfbaa.Aes
open Go.RowKit
theorem apart_law (d : ByteArray) (a b : Nat → Own.B8) (W : World) (_ : d.size ≤ 140737488351232) : Calls Try.prog 3 #[.string d, .agg (ba 16 a), .agg (ba 16 b)] W fun e W' => e = .returned (.bool true) ∧ Below W.heap.size W W' := apart_row d a b W
end Go.Proofs.Ytiblkbkdfebfbaa.Aes
