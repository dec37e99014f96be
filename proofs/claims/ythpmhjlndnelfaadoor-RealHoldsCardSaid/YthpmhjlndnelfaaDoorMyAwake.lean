/- The examples of the chapters 1 and 2: they hold. The conditions: the tables are laid. -/
import Derived.Test.YthpmhjlndnelfaaDoorMyCmp
import Derived.Test.YthpmhjlndnelfaaDoorPRealTurnedx1
namespace Go.Proofs.YthpmhjlndnelfaaDoor.Real
open Go.RowKit Go.Lib Go.Proofs.YthpmhjlndnelfaaDoorW.PrintWords Go.Proofs.YthpmhjlndnelfaaDoor.PRealTurned

theorem awake01 (w : World) : Calls Tryd.prog 53 #[] w fun e w' => e = .returned (.bool true) ∧ Below w.heap.size w w' :=
  vagabondlaw01_Awake.calls 10 true w (by decide +kernel)

theorem s1 : Go.bits .andNot .u64 0 9223372036854775808 = 0 := by decide +kernel
theorem s2 : Go.bits .and .u64 13830554455654793216 9223372036854775808 = 9223372036854775808 := by decide +kernel
theorem s3 : Go.bits .or .u64 0 9223372036854775808 = 9223372036854775808 := by decide +kernel

theorem copysign_any (w : World) : Calls Tryd.prog 54 #[.float .f64 0, .float .f64 13830554455654793216] w fun e w' => e = .returned (.float .f64 9223372036854775808) ∧ w = w' := by
  have h1 := s1
  have h2 := s2
  have h3 := s3
  have h4 : ∀ W, (callFunc 69 #[.float .f64 0]).run Tryd.prog W = .ok (.value (.int .u64 0)) W := fun W => f69 0 W
  have h5 : ∀ W, (callFunc 69 #[.float .f64 13830554455654793216]).run Tryd.prog W = .ok (.value (.int .u64 13830554455654793216)) W := fun W => f69 13830554455654793216 W
  have h6 : ∀ W, (callFunc 41 #[.int .u64 9223372036854775808]).run Tryd.prog W = .ok (.value (.float .f64 9223372036854775808)) W := fun W => f41 9223372036854775808 W
  go_enter Tryd.func54, Tryd.ntmps54
  go_wp2
  go_ret
  exact ⟨rfl, rfl⟩

theorem kd_half : kd 4602678819172646912 = 5 := by decide +kernel
theorem cp_zeros : cp 9223372036854775808 0 = -1 := by decide +kernel

theorem text_half (w : World) (ht : Tabs w) : Calls Tryd.prog 55 #[.float .f64 4602678819172646912] w fun e w' => e = .returned (.string ⟨#[48, 46, 53]⟩) ∧ Below w.heap.size w w' := by
  have hk := kind_any 4602678819172646912 (by omega)
  rw [kd_half] at hk
  have HK := Aside0.mk hk
  have HT := Aside0.mk ht
  clear hk ht
  go_enter Tryd.func55, Tryd.ntmps55
  go_wp2_with (go_at_call 15; refine (HK.out _).mono ?_; rintro e w' ⟨rfl, rfl⟩)
  go_enter Tryd.func74, Tryd.ntmps74
  go_wp2_with (go_at_call 81; refine (format_half _ HT.out).mono ?_; rintro e w' ⟨rfl, hb⟩; have HB := Aside0.mk hb; clear hb)
  refine bodyPost_ret (v := .string ⟨#[48, 46, 53]⟩) (by simp [results, Tryd.results55, go_sem]) rfl ⟨rfl, HB.out⟩

theorem awake02 (w : World) (ht : Tabs w) : Calls Tryd.prog 14 #[] w fun e w' => e = .returned (.bool true) ∧ Below w.heap.size w w' := by
  have hc := cmp_any 9223372036854775808 0 (by omega) (by omega)
  rw [cp_zeros] at hc
  have HC := Aside0.mk hc
  have HT := Aside0.mk ht
  clear hc ht
  go_enter Tryd.func14, Tryd.ntmps14
  go_wp2_with (first
    | (go_at_call 53; refine (awake01 _).mono ?_; rintro e w1 ⟨rfl, hb1⟩; have HB1 := Aside0.mk hb1; clear hb1)
    | (go_at_call 54; refine (copysign_any _).mono ?_; rintro e w' ⟨rfl, rfl⟩)
    | (go_at_call 16; refine (HC.out _).mono ?_; rintro e w' ⟨rfl, rfl⟩)
    | (go_at_call 55; refine (text_half _ (HT.out.below HB1.out)).mono ?_; rintro e w2 ⟨rfl, hb2⟩; have HB2 := Aside0.mk (HB1.out.trans (hb2.mono HB1.out.size)); clear hb2))
  go_ret
  exact ⟨rfl, HB2.out⟩

theorem awake61 (w : World) (ht : Tabs w) : Calls Tryd.prog 61 #[] w fun e w' => e = .returned (.bool true) ∧ Below w.heap.size w w' := by
  have HT := Aside0.mk ht
  clear ht
  go_enter Tryd.func61, Tryd.ntmps61
  go_wp2_with (go_at_call 14; refine (awake02 _ HT.out).mono ?_; rintro e w' ⟨rfl, hb⟩; have HB := Aside0.mk hb; clear hb)
  go_ret
  exact ⟨rfl, HB.out⟩
end Go.Proofs.YthpmhjlndnelfaaDoor.Real
