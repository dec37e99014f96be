/- RealOrder: the walk of the law. The conditions: 64 bits; the tables are laid. -/
import Derived.Test.YthpmhjlndnelfaaDoorMyRef2
namespace Go.Proofs.YthpmhjlndnelfaaDoor.Real
open Go.RowKit Go.Lib Go.Proofs.YthpmhjlndnelfaaDoorW.PrintWords

theorem rkind_at (b : Nat) (k : Int) (hb : b < 18446744073709551616) (h : kd b = k) (w : World) : Calls Tryd.prog 17 #[.float .f64 b] w fun e w' => e = .returned (.int .i64 k) ∧ w = w' := h ▸ rkind_any b hb w

theorem rcmp_any (a b : Nat) (ha : a < 18446744073709551616) (hb : b < 18446744073709551616) (w : World) :
    Calls Tryd.prog 18 #[.float .f64 a, .float .f64 b] w fun e w' => e = .returned (.int .i64 (cp a b)) ∧ w = w' := by
  have hcp := cp_eq a b
  obtain ⟨k, hk⟩ : ∃ k, kd a = k := ⟨_, rfl⟩
  obtain ⟨m, hm⟩ : ∃ k, kd b = k := ⟨_, rfl⟩
  have HA := Aside0.mk (rkind_at a k ha hk)
  have HB := Aside0.mk (rkind_at b m hb hm)
  have hna := kd_nan a
  have hnb := kd_nan b
  rw [hk] at hna
  rw [hm] at hnb
  rw [hk, hm] at hcp
  clear hk hm
  rcases Int.lt_trichotomy k m with h | h | h
  · rw [ci_lt h, if_pos (by decide)] at hcp
    rw [hcp]
    have h1 : decide (k < m) = true := decide_eq_true h
    clear hna hnb hcp
    go_enter Tryd.func18, Tryd.ntmps18
    go_wp2_with (first
      | ((go_at_call 17; with_reducible refine (HA.out _).mono ?_); rintro e w' ⟨rfl, rfl⟩)
      | ((go_at_call 17; with_reducible refine (HB.out _).mono ?_); rintro e w' ⟨rfl, rfl⟩))
    go_ret
    exact ⟨rfl, rfl⟩
  · subst h
    rw [ci_eq rfl, if_neg (by decide)] at hcp
    have h1 : decide (k < k) = false := decide_eq_false (by omega)
    have h2 : (k == k) = true := beq_self_eq_true k
    by_cases h0 : k = 0
    · rw [if_pos h0] at hcp
      rw [hcp]
      have ho : FloatKind.f64.format.order a b = none := order_nan_left a b ha (hna.1 h0)
      clear hna hnb hcp h0
      go_enter Tryd.func18, Tryd.ntmps18
      go_wp2_with (first
        | ((go_at_call 17; with_reducible refine (HA.out _).mono ?_); rintro e w' ⟨rfl, rfl⟩)
        | ((go_at_call 17; with_reducible refine (HB.out _).mono ?_); rintro e w' ⟨rfl, rfl⟩))
      go_ret
      exact ⟨rfl, rfl⟩
    · rw [if_neg h0] at hcp
      have na : nan a = false := by cases h : nan a with | false => rfl | true => exact absurd (hna.2 h) h0
      have nb : nan b = false := by cases h : nan b with | false => rfl | true => exact absurd (hnb.2 h) h0
      have ho := order_key a b ha hb na nb
      rw [cmp_int] at ho
      rcases Int.lt_trichotomy (key a) (key b) with h | h | h
      · rw [ci_lt h] at hcp
        rw [if_pos h] at ho
        rw [hcp]
        have ho2 : FloatKind.f64.format.order a b = some Ordering.lt := ho
        clear hna hnb hcp h0 ho h na nb
        go_enter Tryd.func18, Tryd.ntmps18
        go_wp2_with (first
          | ((go_at_call 17; with_reducible refine (HA.out _).mono ?_); rintro e w' ⟨rfl, rfl⟩)
          | ((go_at_call 17; with_reducible refine (HB.out _).mono ?_); rintro e w' ⟨rfl, rfl⟩))
        go_ret
        exact ⟨rfl, rfl⟩
      · rw [ci_eq h] at hcp
        rw [if_neg (by omega), if_pos h] at ho
        rw [hcp]
        have ho2 : FloatKind.f64.format.order a b = some Ordering.eq := ho
        clear hna hnb hcp h0 ho h na nb
        go_enter Tryd.func18, Tryd.ntmps18
        go_wp2_with (first
          | ((go_at_call 17; with_reducible refine (HA.out _).mono ?_); rintro e w' ⟨rfl, rfl⟩)
          | ((go_at_call 17; with_reducible refine (HB.out _).mono ?_); rintro e w' ⟨rfl, rfl⟩))
        go_ret
        exact ⟨rfl, rfl⟩
      · rw [ci_gt h] at hcp
        rw [if_neg (by omega), if_neg (by omega)] at ho
        rw [hcp]
        have ho2 : FloatKind.f64.format.order a b = some Ordering.gt := ho
        clear hna hnb hcp h0 ho h na nb
        go_enter Tryd.func18, Tryd.ntmps18
        go_wp2_with (first
          | ((go_at_call 17; with_reducible refine (HA.out _).mono ?_); rintro e w' ⟨rfl, rfl⟩)
          | ((go_at_call 17; with_reducible refine (HB.out _).mono ?_); rintro e w' ⟨rfl, rfl⟩))
        go_ret
        exact ⟨rfl, rfl⟩
  · rw [ci_gt h, if_pos (by decide)] at hcp
    rw [hcp]
    have h1 : decide (k < m) = false := decide_eq_false (by omega)
    have h2 : (k == m) = false := beq_eq_false_iff_ne.2 (by omega)
    have h3 : decide (m < k) = true := decide_eq_true h
    clear hna hnb hcp
    go_enter Tryd.func18, Tryd.ntmps18
    go_wp2_with (first
      | ((go_at_call 17; with_reducible refine (HA.out _).mono ?_); rintro e w' ⟨rfl, rfl⟩)
      | ((go_at_call 17; with_reducible refine (HB.out _).mono ?_); rintro e w' ⟨rfl, rfl⟩))
    go_ret
    exact ⟨rfl, rfl⟩

theorem rcmp_at (a b : Nat) (k : Int) (ha : a < 18446744073709551616) (hb : b < 18446744073709551616) (h : cp a b = k) (w : World) :
    Calls Tryd.prog 18 #[.float .f64 a, .float .f64 b] w fun e w' => e = .returned (.int .i64 k) ∧ w = w' := h ▸ rcmp_any a b ha hb w

theorem ci_swap (x y : Int) : ci y x = - ci x y := by
  unfold ci
  split <;> split <;> (try split) <;> omega
theorem cp_swap (a b : Nat) : cp b a = - cp a b := ci_swap _ _
theorem cp_self (a : Nat) : cp a a = 0 := ci_eq rfl
theorem cp_range (a b : Nat) : cp a b = -1 ∨ cp a b = 0 ∨ cp a b = 1 := by
  unfold cp ci
  split
  · exact .inl rfl
  · split
    · exact .inr (.inr rfl)
    · exact .inr (.inl rfl)
theorem cp_le (a b : Nat) : cp a b ≤ 0 ↔ tk a ≤ tk b := by
  unfold cp ci
  split
  · constructor <;> intro <;> omega
  · split <;> constructor <;> intro <;> omega

set_option maxHeartbeats 2000000 in
theorem order_walk (a b c : Nat) (ha : a < 18446744073709551616) (hb : b < 18446744073709551616) (hc : c < 18446744073709551616) (w : World) (ht : Tabs w) :
    Calls Tryd.prog 4 #[.float .f64 a, .float .f64 b, .float .f64 c] w fun e w' => e = .returned (.bool true) ∧ Below w.heap.size w w' := by
  have HT := Aside0.mk ht
  clear ht
  obtain ⟨k, hk⟩ : ∃ k, kd a = k := ⟨_, rfl⟩
  obtain ⟨x, hx⟩ : ∃ k, cp a b = k := ⟨_, rfl⟩
  obtain ⟨y, hy⟩ : ∃ k, cp b c = k := ⟨_, rfl⟩
  obtain ⟨z, hz⟩ : ∃ k, cp a c = k := ⟨_, rfl⟩
  have HK := Aside0.mk (kind_at a k ha hk)
  have HR := Aside0.mk (rkind_at a k ha hk)
  have HX := Aside0.mk (cmp_at a b x ha hb hx)
  have HY := Aside0.mk (cmp_at b c y hb hc hy)
  have HZ := Aside0.mk (cmp_at a c z ha hc hz)
  have HX2 := Aside0.mk (rcmp_at a b x ha hb hx)
  have HS := Aside0.mk (same_at a b x ha hb hx)
  have HV := Aside0.mk (cmp_at b a (-x) hb ha (by rw [cp_swap, hx]))
  have HA := Aside0.mk (cmp_at a a 0 ha ha (cp_self a))
  have h1 := cp_le a b
  have h2 := cp_le b c
  have h3 := cp_le a c
  have hr := cp_range a b
  have hr2 := cp_range b c
  have hr3 := cp_range a c
  rw [hx] at h1 hr
  rw [hy] at h2 hr2
  rw [hz] at h3 hr3
  have hkk : (k == k) = true := beq_self_eq_true k
  have hxx : (x == x) = true := beq_self_eq_true x
  have hlast : (decide (x > 0) || decide (y > 0) || decide (z ≤ 0)) = true := by
    by_cases g1 : x > 0
    · simp [g1]
    · by_cases g2 : y > 0
      · simp [g2]
      · have : z ≤ 0 := by omega
        simp [this]
  clear h1 h2 h3 hk hx hy hz
  rcases hr with rfl | rfl | rfl <;> rcases hr2 with rfl | rfl | rfl <;> rcases hr3 with rfl | rfl | rfl <;> first
    | (exfalso; revert hlast; decide)
    | (clear hlast hxx
       go_enter Tryd.func4, Tryd.ntmps4
       go_wp2_with (first
        | (go_at_call 14; refine (awake02 _ HT.out).mono ?_; rintro e w1 ⟨rfl, hb1⟩; have HB1 := Aside0.mk hb1; clear hb1)
        | ((go_at_call 15; with_reducible refine (HK.out _).mono ?_); rintro e w' ⟨rfl, rfl⟩)
        | ((go_at_call 17; with_reducible refine (HR.out _).mono ?_); rintro e w' ⟨rfl, rfl⟩)
        | ((go_at_call 18; with_reducible refine (HX2.out _).mono ?_); rintro e w' ⟨rfl, rfl⟩)
        | ((go_at_call 19; with_reducible refine (HS.out _).mono ?_); rintro e w' ⟨rfl, rfl⟩)
        | ((go_at_call 16; with_reducible refine (HX.out _).mono ?_); rintro e w' ⟨rfl, rfl⟩)
        | ((go_at_call 16; with_reducible refine (HY.out _).mono ?_); rintro e w' ⟨rfl, rfl⟩)
        | ((go_at_call 16; with_reducible refine (HZ.out _).mono ?_); rintro e w' ⟨rfl, rfl⟩)
        | ((go_at_call 16; with_reducible refine (HV.out _).mono ?_); rintro e w' ⟨rfl, rfl⟩)
        | ((go_at_call 16; with_reducible refine (HA.out _).mono ?_); rintro e w' ⟨rfl, rfl⟩))
       go_ret
       exact ⟨rfl, HB1.out⟩)
end Go.Proofs.YthpmhjlndnelfaaDoor.Real
