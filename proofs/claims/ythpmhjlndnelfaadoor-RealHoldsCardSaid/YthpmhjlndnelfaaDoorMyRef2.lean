/- The document's Kind and Cmp, and Same: their contracts. The condition: 64 bits. -/
import Derived.Test.YthpmhjlndnelfaaDoorMyTurned
import Derived.Test.YthpmhjlndnelfaaDoorOwnAdd
namespace Go.Proofs.YthpmhjlndnelfaaDoor.Real
open Go.RowKit Go.Lib Go.Proofs.YthpmhjlndnelfaaDoorW.PrintWords

def gt0 (b : Nat) : Bool := !nan b && decide (0 < key b)

theorem t_gt0 (b : Nat) (hb : b < 18446744073709551616) : (FloatKind.f64.format.order b 0 == some Ordering.gt) = gt0 b := by
  rw [f64]
  unfold gt0
  cases h : nan b with
  | true => rw [order_nan_left b 0 hb h]; rfl
  | false =>
    rw [order_key b 0 hb (by omega) h nan_zero, key_zero, cmp_int]
    rcases Int.lt_trichotomy (key b) 0 with h1 | h1 | h1
    · rw [if_pos h1, decide_eq_false (by omega)]; rfl
    · rw [if_neg (by omega), if_pos h1, decide_eq_false (by omega)]; rfl
    · rw [if_neg (by omega), if_neg (by omega), decide_eq_true h1]; rfl

theorem run_add (b c : Nat) (h : Ieee.double.add b b = some c) (W : World) : (binOp .add 22 (.float .f64 b) (.float .f64 b)).run Tryd.prog W = .ok (.float .f64 c) W :=
  run_float_arith W .add 22 .f64 b b c h
theorem run_div (a b c : Nat) (h : Ieee.double.div a b = some c) (W : World) : (binOp .quo 22 (.float .f64 a) (.float .f64 b)).run Tryd.prog W = .ok (.float .f64 c) W :=
  run_float_arith W .quo 22 .f64 a b c h

theorem div_p0 : Ieee.double.div 4607182418800017408 0 = some 9218868437227405312 := by decide +kernel
theorem div_m0 : Ieee.double.div 4607182418800017408 9223372036854775808 = some 18442240474082181120 := by decide +kernel

theorem rkind_any (b : Nat) (hb : b < 18446744073709551616) (w : World) : Calls Tryd.prog 17 #[.float .f64 b] w fun e w' => e = .returned (.int .i64 (kd b)) ∧ w = w' := by
  have t0 := t_nan b hb
  have t1 := t_lt0 b hb
  have t2 := t_gt0 b hb
  have hc := tk_cases b
  have hkn := kd_nan b
  have hr := rg_le b
  by_cases hn : nan b = true
  · rw [hkn.2 hn]
    rw [hn] at t0
    clear t1 t2 hc hkn hn
    go_enter Tryd.func17, Tryd.ntmps17
    go_wp2
    go_ret
    exact ⟨rfl, rfl⟩
  · have hnf : nan b = false := by simpa using hn
    rw [hnf] at t0
    have hk0 : kd b ≠ 0 := fun e => hn (hkn.1 e)
    have htk : tk b = if sg b then -(rg b : Int) - 1 else (rg b : Int) := by unfold tk; rw [hnf]; rfl
    have hkey : key b = if sg b then -(rg b : Int) else (rg b : Int) := rfl
    by_cases h0 : rg b = 0
    · have hl : lt0 b = false := by unfold lt0; rw [hnf, decide_eq_false (by rw [hkey]; split <;> omega)]; rfl
      have hg : gt0 b = false := by unfold gt0; rw [hnf, decide_eq_false (by rw [hkey]; split <;> omega)]; rfl
      rw [hl] at t1
      rw [hg] at t2
      cases hs : sg b
      · rw [hs] at htk
        simp only [if_false, Bool.false_eq_true] at htk
        have e4 : kd b = 4 := by omega
        have hb0 : b = 0 := by unfold sg at hs; unfold rg at h0; rw [decide_eq_false_iff_not] at hs; omega
        rw [e4]
        subst hb0
        have hd := fun W => run_div _ _ _ div_p0 W
        have ho : FloatKind.f64.format.order 9218868437227405312 0 = some Ordering.gt := by decide +kernel
        clear hc hkn hn hnf hk0 htk hkey h0 hl hg hs e4
        go_enter Tryd.func17, Tryd.ntmps17
        go_wp2
        go_ret
        exact ⟨rfl, rfl⟩
      · rw [hs] at htk
        simp only [if_true] at htk
        have e4 : kd b = 3 := by omega
        have hb0 : b = 9223372036854775808 := by unfold sg at hs; unfold rg at h0; rw [decide_eq_true_eq] at hs; omega
        rw [e4]
        subst hb0
        have hd := fun W => run_div _ _ _ div_m0 W
        have ho : FloatKind.f64.format.order 18442240474082181120 0 = some Ordering.lt := by decide +kernel
        clear hc hkn hn hnf hk0 htk hkey h0 hl hg hs e4
        go_enter Tryd.func17, Tryd.ntmps17
        go_wp2
        go_ret
        exact ⟨rfl, rfl⟩
    · obtain ⟨c, hc1, hc2⟩ := add_self b hb hnf h0
      have hd := fun W => run_add b c hc1 W
      cases hs : sg b
      · rw [hs] at htk hkey
        simp only [if_false, Bool.false_eq_true] at htk hkey
        have hl : lt0 b = false := by unfold lt0; rw [hnf, decide_eq_false (by omega)]; rfl
        have hg : gt0 b = true := by unfold gt0; rw [hnf, decide_eq_true (by omega)]; rfl
        rw [hl] at t1
        rw [hg] at t2
        by_cases hi : rg b = 9218868437227405312
        · rw [decide_eq_true hi] at hc2
          have e4 : kd b = 6 := by omega
          rw [e4]
          clear hc hkn hn hnf hk0 htk hkey h0 hl hg hs e4 hc1 hi
          go_enter Tryd.func17, Tryd.ntmps17
          go_wp2
          go_ret
          exact ⟨rfl, rfl⟩
        · rw [decide_eq_false hi] at hc2
          have e4 : kd b = 5 := by omega
          rw [e4]
          clear hc hkn hn hnf hk0 htk hkey h0 hl hg hs e4 hc1 hi
          go_enter Tryd.func17, Tryd.ntmps17
          go_wp2
          go_ret
          exact ⟨rfl, rfl⟩
      · rw [hs] at htk hkey
        simp only [if_true] at htk hkey
        have hl : lt0 b = true := by unfold lt0; rw [hnf, decide_eq_true (by omega)]; rfl
        rw [hl] at t1
        by_cases hi : rg b = 9218868437227405312
        · rw [decide_eq_true hi] at hc2
          have e4 : kd b = 1 := by omega
          rw [e4]
          clear hc hkn hn hnf hk0 htk hkey h0 hl hs e4 hc1 hi t2
          go_enter Tryd.func17, Tryd.ntmps17
          go_wp2
          go_ret
          exact ⟨rfl, rfl⟩
        · rw [decide_eq_false hi] at hc2
          have e4 : kd b = 2 := by omega
          rw [e4]
          clear hc hkn hn hnf hk0 htk hkey h0 hl hs e4 hc1 hi t2
          go_enter Tryd.func17, Tryd.ntmps17
          go_wp2
          go_ret
          exact ⟨rfl, rfl⟩

theorem same_at (a b : Nat) (k : Int) (ha : a < 18446744073709551616) (hb : b < 18446744073709551616) (h : cp a b = k) (w : World) : Calls Tryd.prog 19 #[.float .f64 a, .float .f64 b] w fun e w' => e = .returned (.bool (k == 0)) ∧ w = w' := by
  have HC := Aside0.mk (cmp_at a b k ha hb h)
  clear h
  go_enter Tryd.func19, Tryd.ntmps19
  go_wp2_with (go_at_call 16; refine (HC.out _).mono ?_; rintro e w' ⟨rfl, rfl⟩)
  go_ret
  exact ⟨rfl, rfl⟩
end Go.Proofs.YthpmhjlndnelfaaDoor.Real
