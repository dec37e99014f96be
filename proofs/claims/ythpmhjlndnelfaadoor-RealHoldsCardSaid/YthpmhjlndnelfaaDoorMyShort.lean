/- The shortest digits of one half: the contracts of shortFloat and of what it calls. The condition: one row of the table of tens is laid. -/
import Derived.Test.YthpmhjlndnelfaaDoorMyShelf
import Derived.Test.YthpmhjlndnelfaaDoorWWords
import Derived.WalkKit
import Derived.BigCall
import Derived.BigGuard
import Derived.Deep.QuietTactic
import Derived.BigQuiet
import Derived.WalkLawsBesides
namespace Go.Proofs.YthpmhjlndnelfaaDoor.Real
open Go.RowKit Go.Lib Go.Proofs.YthpmhjlndnelfaaDoorW.PrintWords

set_option maxHeartbeats 1000000 in
theorem prescale_17 (w : World) (hg : 4 < w.heap.size) (h0 : w.cell? ⟨4, 730, none⟩ = some (.int .u64 12800000000000000000)) (h1 : w.cell? ⟨4, 731, none⟩ = some (.int .u64 0)) :
    Calls Tryd.prog 103 #[.pointer (some ⟨w.heap.size, 0, none⟩), .int .i64 (-64), .int .i64 17, .int .i64 56] (w.alloc (.cells #[.int .u64 0, .int .u64 0, .int .i64 0] 127))
      fun e w' => e = .returned (.tuple #[]) ∧ w' = w.alloc (.cells #[.int .u64 12800000000000000000, .int .u64 0, .int .i64 5] 127) := by
  go_enter Tryd.func103, Tryd.ntmps103
  go_wp2
  go_end0
  exact ⟨rfl, rfl⟩

theorem and5 : Go.bits .and .i64 5 63 = 5 := by decide +kernel
theorem or_min : Go.bits .or .u64 199999999999999988 1 = 199999999999999989 := by decide +kernel
theorem or_max : Go.bits .or .u64 200000000000000022 1 = 200000000000000023 := by decide +kernel

set_option maxHeartbeats 1000000 in
theorem uscale_min (w : World) :
    Calls Tryd.prog 105 #[.int .u64 9223372036854775296, .pointer (some ⟨w.heap.size, 0, none⟩)] (w.alloc (.cells #[.int .u64 12800000000000000000, .int .u64 0, .int .i64 5] 127))
      fun e w' => e = .returned (.int .u64 199999999999999989) ∧ w' = w.alloc (.cells #[.int .u64 12800000000000000000, .int .u64 0, .int .i64 5] 127) := by
  have hm := Tryd.bits_Mul64 9223372036854775296 12800000000000000000 (by decide) (by decide)
  have h5 := and5
  have ho := or_min
  go_enter Tryd.func105, Tryd.ntmps105
  go_wp2_with (go_at_call 122; refine (hm _).mono ?_; rintro e w' ⟨rfl, rfl⟩)
  go_ret
  exact ⟨rfl, rfl⟩

set_option maxHeartbeats 1000000 in
theorem uscale_max (w : World) :
    Calls Tryd.prog 105 #[.int .u64 9223372036854776832, .pointer (some ⟨w.heap.size, 0, none⟩)] (w.alloc (.cells #[.int .u64 12800000000000000000, .int .u64 0, .int .i64 5] 127))
      fun e w' => e = .returned (.int .u64 200000000000000023) ∧ w' = w.alloc (.cells #[.int .u64 12800000000000000000, .int .u64 0, .int .i64 5] 127) := by
  have hm := Tryd.bits_Mul64 9223372036854776832 12800000000000000000 (by decide) (by decide)
  have h5 := and5
  have ho := or_max
  go_enter Tryd.func105, Tryd.ntmps105
  go_wp2_with (go_at_call 122; refine (hm _).mono ?_; rintro e w' ⟨rfl, rfl⟩)
  go_ret
  exact ⟨rfl, rfl⟩

theorem skewed_53 (w : World) : Calls Tryd.prog 102 #[.int .i64 (-53)] w fun e w' => e = .returned (.int .i64 (-17)) ∧ w = w' := by
  go_enter Tryd.func102, Tryd.ntmps102
  go_wp2
  go_ret
  exact ⟨rfl, rfl⟩
theorem log2_17 (w : World) : Calls Tryd.prog 104 #[.int .i64 17] w fun e w' => e = .returned (.int .i64 56) ∧ w = w' := by
  go_enter Tryd.func104, Tryd.ntmps104
  go_wp2
  go_ret
  exact ⟨rfl, rfl⟩

theorem nudge_min (w : World) : Calls Tryd.prog 106 #[.int .u64 199999999999999989, .int .i64 0] w fun e w' => e = .returned (.int .u64 199999999999999989) ∧ w = w' := by
  go_enter Tryd.func106, Tryd.ntmps106
  go_wp2
  go_ret
  exact ⟨rfl, rfl⟩
theorem nudge_max (w : World) : Calls Tryd.prog 106 #[.int .u64 200000000000000023, .int .i64 0] w fun e w' => e = .returned (.int .u64 200000000000000023) ∧ w = w' := by
  go_enter Tryd.func106, Tryd.ntmps106
  go_wp2
  go_ret
  exact ⟨rfl, rfl⟩
theorem ceil_min (w : World) : Calls Tryd.prog 107 #[.int .u64 199999999999999989] w fun e w' => e = .returned (.int .u64 49999999999999998) ∧ w = w' := by
  go_enter Tryd.func107, Tryd.ntmps107
  go_wp2
  go_ret
  exact ⟨rfl, rfl⟩
theorem floor_max (w : World) : Calls Tryd.prog 108 #[.int .u64 200000000000000023] w fun e w' => e = .returned (.int .u64 50000000000000005) ∧ w = w' := by
  go_enter Tryd.func108, Tryd.ntmps108
  go_wp2
  go_ret
  exact ⟨rfl, rfl⟩

theorem and0 : Go.bits .and .i64 4503599627370496 1 = 0 := by decide +kernel

set_option maxHeartbeats 4000000 in
set_option maxRecDepth 100000 in
theorem short_half (w : World) (hg : 4 < w.heap.size) (h0 : w.cell? ⟨4, 730, none⟩ = some (.int .u64 12800000000000000000)) (h1 : w.cell? ⟨4, 731, none⟩ = some (.int .u64 0)) :
    Calls Tryd.prog 98 #[.int .u64 9223372036854775808, .int .i64 (-64)] w fun e w' => e = .returned (.tuple #[.int .u64 5000000000000000, .int .i64 (-16)]) ∧ w' = w.alloc (.cells #[.int .u64 12800000000000000000, .int .u64 0, .int .i64 5] 127) := by
  have ha := and0
  go_enter Tryd.func98, Tryd.ntmps98
  go_wp2_with (first
    | (go_at_call 102; refine (skewed_53 _).mono ?_; rintro e w' ⟨rfl, rfl⟩)
    | (go_at_call 104; refine (log2_17 _).mono ?_; rintro e w' ⟨rfl, rfl⟩)
    | (go_at_call 106; first | ((with_reducible refine (nudge_min _).mono ?_); rintro e w' ⟨rfl, rfl⟩) | ((with_reducible refine (nudge_max _).mono ?_); rintro e w' ⟨rfl, rfl⟩))
    | (go_at_call 107; refine (ceil_min _).mono ?_; rintro e w' ⟨rfl, rfl⟩)
    | (go_at_call 108; refine (floor_max _).mono ?_; rintro e w' ⟨rfl, rfl⟩)
    | (go_at_call 103; refine (prescale_17 w hg h0 h1).mono ?_; rintro e w' ⟨rfl, rfl⟩)
    | (go_at_call 105; first | ((with_reducible refine (uscale_min w).mono ?_); rintro e w' ⟨rfl, rfl⟩) | ((with_reducible refine (uscale_max w).mono ?_); rintro e w' ⟨rfl, rfl⟩)))
  go_ret2
  exact ⟨rfl, rfl⟩
end Go.Proofs.YthpmhjlndnelfaaDoor.Real
