/- Left of the drain; the closure of DrainShares. The conditions stand at each. -/
import Derived.Test.YthpmhjlndnelfaaDoorMyDrain3
import Derived.Test.YthpmhjlndnelfaaDoorMyRatios
import Derived.Test.YthpmhjlndnelfaaDoorMyOrder
import Derived.Test.YthpmhjlndnelfaaDoorMyWholes
import Derived.Test.YthpmhjlndnelfaaDoorOwnQuo
namespace Go.Proofs.YthpmhjlndnelfaaDoor.Real
open Go.RowKit Go.Lib Go.Proofs.YthpmhjlndnelfaaDoorW.PrintWords PDrainTurns

theorem nan50 (w : World) : Calls Tryd.prog 50 #[] w fun e w' => e = .returned (.float .f64 9221120237041090561) ∧ w = w' := by
  have h6 : ∀ W, (callFunc 41 #[.int .u64 9221120237041090561]).run Tryd.prog W = .ok (.value (.float .f64 9221120237041090561)) W := fun W => f41 9221120237041090561 W
  go_enter Tryd.func50, Tryd.ntmps50
  go_wp2
  go_ret
  exact ⟨rfl, rfl⟩

theorem qt_at (x y : Nat) (hy : y ≠ 0) (hxy : x ≤ y) (hy2 : y < 18446744073709551616) (w : World) :
    Calls Tryd.prog 20 #[.float .f64 (nr x 0), .float .f64 (nr y 0)] w fun e w' => e = .returned (.float .f64 (qt x y)) ∧ w = w' := by
  obtain ⟨h1, h2⟩ := qt_spec x y hy hxy hy2
  exact ratio_some _ _ _ h1 (by omega) (by unfold nan rg; exact decide_eq_false (by omega)) w

set_option maxRecDepth 100000 in
theorem left_on (b : Bool) (d c f s : Int) (hs : word_Add.f c f = some s) (w : World) :
    Calls Tryd.prog 49 #[dv b false d c f] w fun e w' => e = .returned (.float .f64 9221120237041090561) ∧ Below w.heap.size w w' := by
  have hu41 := Tryd.underlying41
  have HA := Aside0.mk (fun W => word_Add.calls c f s W hs)
  clear hs
  go_enter Tryd.func49, Tryd.ntmps49
  go_wp2_with (first | (go_at_call 65; refine (HA.out _).mono ?_; rintro e w' ⟨rfl, ⟨n1, rfl⟩⟩) | (go_at_call 50; refine (nan50 _).mono ?_; rintro e w' ⟨rfl, rfl⟩))
  go_ret
  refine ⟨rfl, ?_⟩
  repeat (with_reducible first | exact Below.refl _ _ | apply below_alloc | apply pw_below_drewN | apply below_drew1)

set_option maxRecDepth 100000 in
theorem left_none (b : Bool) (d c f : Int) (hs : word_Add.f c f = some 0) (w : World) :
    Calls Tryd.prog 49 #[dv b true d c f] w fun e w' => e = .returned (.float .f64 4607182418800017408) ∧ Below w.heap.size w w' := by
  have hu41 := Tryd.underlying41
  have HA := Aside0.mk (fun W => word_Add.calls c f 0 W hs)
  clear hs
  go_enter Tryd.func49, Tryd.ntmps49
  go_wp2_with (first | (go_at_call 65; refine (HA.out _).mono ?_; rintro e w' ⟨rfl, ⟨n1, rfl⟩⟩))
  go_ret
  refine ⟨rfl, ?_⟩
  repeat (with_reducible first | exact Below.refl _ _ | apply below_alloc | apply pw_below_drewN | apply below_drew1)

set_option maxRecDepth 100000 in
theorem left_some (b : Bool) (d : Int) (c a : Nat) (f : Int) (hs : word_Add.f (c : Int) f = some (a : Int)) (h0 : a ≠ 0) (hca : c ≤ a) (ha : a < 18446744073709551616) (w : World) :
    Calls Tryd.prog 49 #[dv b true d (c : Int) f] w fun e w' => e = .returned (.float .f64 (qt c a)) ∧ Below w.heap.size w w' := by
  have hu41 := Tryd.underlying41
  have HA := Aside0.mk (fun W => word_Add.calls (c : Int) f (a : Int) W hs)
  have HQ := Aside0.mk (qt_at c a h0 hca ha)
  have hz : ((a : Int) == 0) = false := beq_eq_false_iff_ne.2 (by omega)
  have k1 := fun W => conv_at c W
  have k2 := fun W => conv_at a W
  clear hs h0 hca ha
  go_enter Tryd.func49, Tryd.ntmps49
  go_wp2_with (first | (go_at_call 65; refine (HA.out _).mono ?_; rintro e w' ⟨rfl, ⟨n1, rfl⟩⟩) | (go_at_call 20; refine (HQ.out _).mono ?_; rintro e w' ⟨rfl, rfl⟩))
  go_ret
  refine ⟨rfl, ?_⟩
  repeat (with_reducible first | exact Below.refl _ _ | apply below_alloc | apply pw_below_drewN | apply below_drew1)
end Go.Proofs.YthpmhjlndnelfaaDoor.Real
