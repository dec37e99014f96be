/- The cells that New builds. No conditions. -/
import Derived.Test.YtiblkbkdfebfbaaMyWhole

namespace Go.Proofs.Ytiblkbkdfebfbaa.Aes
open Go.RowKit Go.Proofs.Ytiblkbkdfebfbaa.Own
theorem built28 (sf : Nat → B8) : Try.prog.built 28 [(0, .bool true), (2, .agg (ba 256 sf))] = some (#[.bool true] ++ Array.replicate 176 (.int .u8 0) ++ ba 256 sf) := by kernel_rfl
theorem built28z : Try.prog.built 28 [] = some (#[.bool false] ++ Array.replicate 176 (.int .u8 0) ++ Array.replicate 256 (.int .u8 0)) := by kernel_rfl
end Go.Proofs.Ytiblkbkdfebfbaa.Aes
