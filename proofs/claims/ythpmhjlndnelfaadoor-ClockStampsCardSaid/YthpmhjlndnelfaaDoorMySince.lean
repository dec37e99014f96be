/- The example of law14; Stamp, Since and the document's Since as numbers. The conditions: 64 bits; the tables are laid. -/
import Derived.Test.YthpmhjlndnelfaaDoorMyMean
import Derived.Test.YthpmhjlndnelfaaDoorMyTold
import Derived.Test.YthpmhjlndnelfaaDoorMyClock
namespace Go.Proofs.YthpmhjlndnelfaaDoor.Real
open Go.RowKit Go.Lib Go.Proofs.YthpmhjlndnelfaaDoorW.PrintWords PClockStamps

theorem u16_wrap (a : Int) : IntKind.u16.wrap a = a % 65536 := rfl
def stampOf (n : Nat) : Nat := n % 65536
def agoOf (n s : Nat) : Nat := (n % 65536 + 65536 - s) % 65536

theorem stamp_eq (n : Nat) : clock_Stamp.f (n : Int) = some ((stampOf n : Nat) : Int) := by
  unfold clock_Stamp.f stampOf
  rw [u16_wrap, Int.tmod_eq_emod_of_nonneg (by omega)]
  congr 1
  omega

theorem since_eq (n s : Nat) (h : s < 65536) : clock_Since.f (n : Int) (s : Int) = some ((agoOf n s : Nat) : Int) := by
  unfold clock_Since.f
  rw [stamp_eq, Option.bind_some, u16_wrap, IntKind.wrap_u64]
  unfold agoOf stampOf
  congr 1
  omega

theorem ref_since_from (n s : Nat) (hn : n < 18446744073709551616) (h : s < 65536) : ∀ (d k : Nat), agoOf n s = k + d → vagabondref14_Since.l0 (d + 1) (n : Int) (s : Int) (k : Int) = some ((agoOf n s : Nat) : Int)
  | 0, k, he => by
    unfold vagabondref14_Since.l0
    have e : IntKind.u16.wrap (Int.tmod (IntKind.u64.wrap ((n : Int) - (k : Int))) 65536) = (s : Int) := by
      rw [u16_wrap, IntKind.wrap_u64, Int.tmod_eq_emod_of_nonneg (by omega)]
      unfold agoOf at he
      omega
    rw [if_pos e, he]
    rfl
  | d + 1, k, he => by
    unfold vagabondref14_Since.l0
    have e : IntKind.u16.wrap (Int.tmod (IntKind.u64.wrap ((n : Int) - (k : Int))) 65536) ≠ (s : Int) := by
      rw [u16_wrap, IntKind.wrap_u64, Int.tmod_eq_emod_of_nonneg (by omega)]
      unfold agoOf at he
      omega
    have hk : IntKind.u64.wrap ((k : Int) + 1) = ((k + 1 : Nat) : Int) := by
      rw [IntKind.wrap_u64]
      unfold agoOf at he
      omega
    rw [if_neg e, hk]
    exact ref_since_from n s hn h d (k + 1) (by omega)

theorem ref_since_eq (n s : Nat) (hn : n < 18446744073709551616) (h : s < 65536) : vagabondref14_Since.f (agoOf n s + 1) (n : Int) (s : Int) = some ((agoOf n s : Nat) : Int) := ref_since_from n s hn h (agoOf n s) 0 (by omega)

theorem stamp_calls (n : Nat) (w : World) : Calls Tryd.prog 25 #[.int .u64 (n : Int)] w fun e w' => e = .returned (.int .u16 ((stampOf n : Nat) : Int)) ∧ Drawn0 w w' := clock_Stamp.calls _ _ w (stamp_eq n)
theorem since_calls (n s t : Nat) (h : s < 65536) (ht : agoOf n s = t) (w : World) : Calls Tryd.prog 24 #[.int .u64 (n : Int), .int .u16 (s : Int)] w fun e w' => e = .returned (.int .u64 (t : Int)) ∧ Drawn0 w w' := clock_Since.calls _ _ _ w (ht ▸ since_eq n s h)
theorem ref_since_calls (n s t : Nat) (hn : n < 18446744073709551616) (h : s < 65536) (ht : agoOf n s = t) (w : World) : Calls Tryd.prog 26 #[.int .u64 (n : Int), .int .u16 (s : Int)] w fun e w' => e = .returned (.int .u64 (t : Int)) ∧ Drawn0 w w' := vagabondref14_Since.calls _ _ _ _ w (ht ▸ ref_since_eq n s hn h)

theorem told_at : clock_Clock_Told.f 0 0 0 100 = some (1, 800, 200) := by decide +kernel
theorem smooth_at : clock_Clock_Smooth.f 1 800 200 = some 100 := by decide +kernel
theorem wait_at : clock_Clock_Wait.f 1 800 200 = some 300 := by decide +kernel
theorem count_at : clock_Clock_Count.f 1 800 200 = some 1 := rfl

set_option maxHeartbeats 2000000 in
theorem awake14 (w : World) (ht : Tabs w) : Calls Tryd.prog 22 #[] w fun e w' => e = .returned (.bool true) ∧ Below w.heap.size w w' := by
  have HT := Aside0.mk ht
  clear ht
  go_enter Tryd.func22, Tryd.ntmps22
  go_wp2_with (first
    | (go_at_call 60; refine (clock_Clock_Told.calls 0 0 0 100 1 800 200 _ told_at).mono ?_; rintro e w1 ⟨rfl, hb1⟩; have HB0 := Aside0.mk hb1; clear hb1)
    | (go_at_call 61; have HB1 := Aside0.mk (below_alloc HB0.out (.cells #[.int .u64 1, .int .u64 800, .int .u64 200] 83)); have BK1 := Aside0.mk (by simpa using heap_alloc_new w1 (.cells #[.int .u64 1, .int .u64 800, .int .u64 200] 83) : (w1.alloc (.cells #[.int .u64 1, .int .u64 800, .int .u64 200] 83)).heap[w1.heap.size]? = some (.cells #[.int .u64 1, .int .u64 800, .int .u64 200] 83 (0, 0))); refine (awake61 _ (HT.out.below HB1.out)).mono ?_; rintro e w2 ⟨rfl, hb2⟩; have HB2 := Aside0.mk (HB1.out.trans (hb2.mono HB1.out.size)); have BK2 := Aside0.mk (blk_below (g := w1.heap.size) (o := .cells #[.int .u64 1, .int .u64 800, .int .u64 200] 83 (0, 0)) BK1.out hb2); clear hb2; have hc20 : w2.cell? ⟨w1.heap.size, 0, none⟩ = some (.int .u64 1) := (blk_cell BK2.out 0).trans rfl; have hf20 := blk_frozen BK2.out 0; have hc21 : w2.cell? ⟨w1.heap.size, 1, none⟩ = some (.int .u64 800) := (blk_cell BK2.out 1).trans rfl; have hf21 := blk_frozen BK2.out 1; have hc22 : w2.cell? ⟨w1.heap.size, 2, none⟩ = some (.int .u64 200) := (blk_cell BK2.out 2).trans rfl; have hf22 := blk_frozen BK2.out 2)
    | (go_at_call 62; refine (clock_Clock_Smooth.calls 1 800 200 100 _ smooth_at).mono ?_; rintro e w3 ⟨rfl, hb3⟩; have HB3 := Aside0.mk (HB2.out.trans (hb3.mono HB2.out.size)); have BK3 := Aside0.mk (blk_below (g := w1.heap.size) (o := .cells #[.int .u64 1, .int .u64 800, .int .u64 200] 83 (0, 0)) BK2.out hb3); clear hb3; have hc30 : w3.cell? ⟨w1.heap.size, 0, none⟩ = some (.int .u64 1) := (blk_cell BK3.out 0).trans rfl; have hf30 := blk_frozen BK3.out 0; have hc31 : w3.cell? ⟨w1.heap.size, 1, none⟩ = some (.int .u64 800) := (blk_cell BK3.out 1).trans rfl; have hf31 := blk_frozen BK3.out 1; have hc32 : w3.cell? ⟨w1.heap.size, 2, none⟩ = some (.int .u64 200) := (blk_cell BK3.out 2).trans rfl; have hf32 := blk_frozen BK3.out 2)
    | (go_at_call 63; refine (clock_Clock_Wait.calls 1 800 200 300 _ wait_at).mono ?_; rintro e w4 ⟨rfl, hb4⟩; have HB4 := Aside0.mk (HB3.out.trans (hb4.mono HB3.out.size)); have BK4 := Aside0.mk (blk_below (g := w1.heap.size) (o := .cells #[.int .u64 1, .int .u64 800, .int .u64 200] 83 (0, 0)) BK3.out hb4); clear hb4; have hc40 : w4.cell? ⟨w1.heap.size, 0, none⟩ = some (.int .u64 1) := (blk_cell BK4.out 0).trans rfl; have hf40 := blk_frozen BK4.out 0; have hc41 : w4.cell? ⟨w1.heap.size, 1, none⟩ = some (.int .u64 800) := (blk_cell BK4.out 1).trans rfl; have hf41 := blk_frozen BK4.out 1; have hc42 : w4.cell? ⟨w1.heap.size, 2, none⟩ = some (.int .u64 200) := (blk_cell BK4.out 2).trans rfl; have hf42 := blk_frozen BK4.out 2)
    | (go_at_call 64; refine (clock_Clock_Count.calls 1 800 200 1 _ count_at).mono ?_; rintro e w5 ⟨rfl, hb5⟩; have HB5 := Aside0.mk (HB4.out.trans (hb5.mono HB4.out.size)); have BK5 := Aside0.mk (blk_below (g := w1.heap.size) (o := .cells #[.int .u64 1, .int .u64 800, .int .u64 200] 83 (0, 0)) BK4.out hb5); clear hb5; have hc50 : w5.cell? ⟨w1.heap.size, 0, none⟩ = some (.int .u64 1) := (blk_cell BK5.out 0).trans rfl; have hf50 := blk_frozen BK5.out 0; have hc51 : w5.cell? ⟨w1.heap.size, 1, none⟩ = some (.int .u64 800) := (blk_cell BK5.out 1).trans rfl; have hf51 := blk_frozen BK5.out 1; have hc52 : w5.cell? ⟨w1.heap.size, 2, none⟩ = some (.int .u64 200) := (blk_cell BK5.out 2).trans rfl; have hf52 := blk_frozen BK5.out 2))
  go_ret
  exact ⟨rfl, HB5.out⟩
end Go.Proofs.YthpmhjlndnelfaaDoor.Real
