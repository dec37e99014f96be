/- slices.Equal at two rows of the same 256 bytes: its contract. No conditions. -/
import Derived.Test.YtiblkbkdfebfbaaMyArr
import Derived.StillTactics
import Derived.Tactics
namespace Go.Proofs.Ytiblkbkdfebfbaa.Aes
open Go.RowKit Go.Proofs.Ytiblkbkdfebfbaa.Own

set_option maxRecDepth 30000 in
set_option maxHeartbeats 4000000 in
theorem equal_same (f : Nat → B8) (g1 g2 c1 c2 : Nat) (w : World) (l1 : g1 < w.heap.size) (l2 : g2 < w.heap.size) (h1 : ∀ j, j < 256 → w.cell? ⟨g1, j, none⟩ = some (.int .u8 ((f j).toNat : Int))) (h2 : ∀ j, j < 256 → w.cell? ⟨g2, j, none⟩ = some (.int .u8 ((f j).toNat : Int))) :
    Calls Try.prog 13 #[.slice (some ⟨g1, 0, none⟩) 256 c1, .slice (some ⟨g2, 0, none⟩) 256 c2] w fun e w' => e = .returned (.bool true) ∧ Below w.heap.size w w' := by
  have H1 := Aside0.mk h1
  have H2 := Aside0.mk h2
  have L := Aside0.mk (And.intro l1 l2)
  clear h1 h2 l1 l2
  go_enter Try.func13, Try.ntmps13
  go_wp2
  go_loopw [13] (fun i wr => ∃ k : Nat, k ≤ 256 ∧ i = .int .i64 (k : Int) ∧ Below w.heap.size w wr) (fun i _ => 256 - (RowKit.intOf i).toNat)
  case atStart => exact ⟨0, by omega, rfl, Below.refl _ _⟩
  case round =>
    obtain ⟨k, hk, rfl, hb⟩ := hrel
    by_cases h6 : k < 256
    · have hk6 : (k : Int) < 256 := by omega
      have a1 := (hb.cell (p := ⟨g1, k, none⟩) L.out.1).trans (H1.out k h6)
      have a2 := (hb.cell (p := ⟨g2, k, none⟩) L.out.2).trans (H2.out k h6)
      generalize f k = y at *
      have HB := Aside0.mk hb
      have HK := Aside0.mk h6
      clear hb h6 hk
      go_wp2
      have hm : Try.prog.follows .mixedOrders = true := by kernel_rfl
      go_still hm
      go_wp2
      have := HK.out
      refine ⟨⟨k + 1, by omega, by go_num, HB.out.drew⟩, ?_⟩
      simp [RowKit.intOf]
      omega
    · obtain rfl : k = 256 := by omega
      have HB := Aside0.mk hb
      clear hb h6 hk
      go_wp2
      go_ret
      exact ⟨rfl, HB.out⟩
end Go.Proofs.Ytiblkbkdfebfbaa.Aes
