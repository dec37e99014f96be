/- AesField at bytes as numbers. No conditions. -/
import Derived.Test.YtiblkbkdfebfbaaMyField
namespace Go.Proofs.Ytiblkbkdfebfbaa.Aes
open Go.RowKit Go.Proofs.Ytiblkbkdfebfbaa.Own

theorem byte_of (a : Int) (h : (Lit.int .u8 a).wf = true) : ∃ b : B8, a = (b.toNat : Int) := by
  have h' : (0 : Int) ≤ a ∧ a < 256 := by
    have h2 : IntKind.u8.min ≤ a ∧ a ≤ IntKind.u8.max := by simpa [Lit.wf] using h
    have h3 : IntKind.u8.min = 0 := rfl
    have h4 : IntKind.u8.max = 255 := rfl
    omega
  exact ⟨BitVec.ofNat 8 a.toNat, by rw [BitVec.toNat_ofNat]; omega⟩
theorem field_law (a b c : Int) (W : World) (ha : (Lit.int .u8 a).wf = true) (hb : (Lit.int .u8 b).wf = true) (hc : (Lit.int .u8 c).wf = true) : Calls Try.prog 5 #[.int .u8 a, .int .u8 b, .int .u8 c] W fun e W' => e = .returned (.bool true) ∧ Below W.heap.size W W' := by
  obtain ⟨a, rfl⟩ := byte_of a ha
  obtain ⟨b, rfl⟩ := byte_of b hb
  obtain ⟨c, rfl⟩ := byte_of c hc
  exact field_row a b c W
end Go.Proofs.Ytiblkbkdfebfbaa.Aes
