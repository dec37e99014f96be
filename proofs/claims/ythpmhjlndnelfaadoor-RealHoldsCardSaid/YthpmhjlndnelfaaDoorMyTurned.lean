/- RealTurned: the walk of the law. The conditions: 64 bits; the tables are laid. -/
import Derived.Test.YthpmhjlndnelfaaDoorMyAwake
namespace Go.Proofs.YthpmhjlndnelfaaDoor.Real
open Go.RowKit Go.Lib Go.Proofs.YthpmhjlndnelfaaDoorW.PrintWords

theorem kd_range (b : Nat) : 0 ≤ kd b ∧ kd b ≤ 6 := by have := tk_cases b; omega

theorem tk_ng (b : Nat) (hb : b < 18446744073709551616) (h : nan b = false) : tk (ng b) = -1 - tk b := by
  have hn := ng_facts b hb
  unfold tk
  rw [hn.2.2.1, hn.1, hn.2.1, h]
  cases sg b <;> simp <;> omega

theorem kd_ng (b : Nat) (hb : b < 18446744073709551616) (h : nan b = false) : kd (ng b) = 7 - kd b := by
  have ht := tk_ng b hb h
  have h1 := tk_cases b
  have h2 := tk_cases (ng b)
  have h3 : kd b ≠ 0 := fun e => by rw [(kd_nan b).1 e] at h; cases h
  have h4 : kd (ng b) ≠ 0 := fun e => by have := (kd_nan (ng b)).1 e; rw [(ng_facts b hb).2.2.1, h] at this; cases this
  omega

theorem cp_ng (a b : Nat) (ha : a < 18446744073709551616) (hb : b < 18446744073709551616) (h1 : nan a = false) (h2 : nan b = false) : cp (ng a) (ng b) = cp b a := by
  unfold cp ci
  rw [tk_ng a ha h1, tk_ng b hb h2]
  split <;> split <;> (try split) <;> (try split) <;> first | rfl | omega

theorem cp_nan_nan (a b : Nat) (ha : kd a = 0) (hb : kd b = 0) : cp a b = 0 := by
  have h1 := tk_cases a
  have h2 := tk_cases b
  exact ci_eq (by omega)
theorem cp_nan_left (a b : Nat) (ha : kd a = 0) (hb : kd b ≠ 0) : cp a b = -1 := by
  have h1 := tk_cases a
  have h2 := tk_cases b
  exact ci_lt (by omega)
theorem cp_nan_right (a b : Nat) (ha : kd a ≠ 0) (hb : kd b = 0) : cp a b = 1 := by
  have h1 := tk_cases a
  have h2 := tk_cases b
  exact ci_gt (by omega)

theorem min1 (k : Int) (h : 1 ≤ k) : min k 1 = 1 := by omega
theorem nan_of (b : Nat) (h : kd b ≠ 0) : nan b = false := by cases e : nan b with | false => rfl | true => exact absurd ((kd_nan b).2 e) h

theorem kind_at (b : Nat) (k : Int) (hb : b < 18446744073709551616) (h : kd b = k) (w : World) : Calls Tryd.prog 15 #[.float .f64 b] w fun e w' => e = .returned (.int .i64 k) ∧ w = w' := h ▸ kind_any b hb w
theorem cmp_at (a b : Nat) (k : Int) (ha : a < 18446744073709551616) (hb : b < 18446744073709551616) (h : cp a b = k) (w : World) : Calls Tryd.prog 16 #[.float .f64 a, .float .f64 b] w fun e w' => e = .returned (.int .i64 k) ∧ w = w' := h ▸ cmp_any a b ha hb w

set_option maxHeartbeats 1000000 in
theorem turned_walk (a b : Nat) (ha : a < 18446744073709551616) (hb : b < 18446744073709551616) (w : World) (ht : Tabs w) :
    Calls Tryd.prog 3 #[.float .f64 a, .float .f64 b] w fun e w' => e = .returned (.bool true) ∧ Below w.heap.size w w' := by
  have HT := Aside0.mk ht
  clear ht
  have hu := un_neg a ha
  have hv := un_neg b hb
  have hga := ng_lt a ha
  have hgb := ng_lt b hb
  have ra := kd_range a
  have rb := kd_range b
  by_cases h0 : kd a = 0
  · have HA := Aside0.mk (kind_at a 0 ha h0)
    have hn : kd (ng a) = 0 := (kd_nan _).2 (by rw [(ng_facts a ha).2.2.1]; exact (kd_nan a).1 h0)
    have HN := Aside0.mk (kind_at (ng a) 0 hga hn)
    have hm0 : min (0 : Int) 1 = 0 := rfl
    by_cases h1 : kd b = 0
    · have HB := Aside0.mk (kind_at b 0 hb h1)
      have HC := Aside0.mk (cmp_at a b 0 ha hb (cp_nan_nan a b h0 h1))
      clear h0 h1 hn ra rb
      go_enter Tryd.func3, Tryd.ntmps3
      go_wp2_with (first
        | (go_at_call 14; refine (awake02 _ HT.out).mono ?_; rintro e w1 ⟨rfl, hb1⟩; have HB1 := Aside0.mk hb1; clear hb1)
        | ((go_at_call 15; with_reducible refine (HA.out _).mono ?_); rintro e w' ⟨rfl, rfl⟩)
        | ((go_at_call 15; with_reducible refine (HB.out _).mono ?_); rintro e w' ⟨rfl, rfl⟩)
        | ((go_at_call 15; with_reducible refine (HN.out _).mono ?_); rintro e w' ⟨rfl, rfl⟩)
        | ((go_at_call 16; with_reducible refine (HC.out _).mono ?_); rintro e w' ⟨rfl, rfl⟩))
      go_ret
      exact ⟨rfl, HB1.out⟩
    · obtain ⟨m, hm⟩ : ∃ m, kd b = m := ⟨_, rfl⟩
      have HB := Aside0.mk (kind_at b m hb hm)
      have HC := Aside0.mk (cmp_at a b (-1) ha hb (cp_nan_left a b h0 h1))
      have hm1 := min1 m (by omega)
      have hb0 : 1 ≤ m ∧ m ≤ 6 := by omega
      clear h0 h1 hn ra rb hm
      go_enter Tryd.func3, Tryd.ntmps3
      go_wp2_with (first
        | (go_at_call 14; refine (awake02 _ HT.out).mono ?_; rintro e w1 ⟨rfl, hb1⟩; have HB1 := Aside0.mk hb1; clear hb1)
        | ((go_at_call 15; with_reducible refine (HA.out _).mono ?_); rintro e w' ⟨rfl, rfl⟩)
        | ((go_at_call 15; with_reducible refine (HB.out _).mono ?_); rintro e w' ⟨rfl, rfl⟩)
        | ((go_at_call 15; with_reducible refine (HN.out _).mono ?_); rintro e w' ⟨rfl, rfl⟩)
        | ((go_at_call 16; with_reducible refine (HC.out _).mono ?_); rintro e w' ⟨rfl, rfl⟩))
      go_ret
      exact ⟨rfl, HB1.out⟩
  · obtain ⟨k, hk⟩ : ∃ m, kd a = m := ⟨_, rfl⟩
    have HA := Aside0.mk (kind_at a k ha hk)
    have hka : 1 ≤ k ∧ k ≤ 6 := by omega
    by_cases h1 : kd b = 0
    · have HB := Aside0.mk (kind_at b 0 hb h1)
      have HC := Aside0.mk (cmp_at a b 1 ha hb (cp_nan_right a b h0 h1))
      have hm1 := min1 k (by omega)
      have hm0 : min (0 : Int) 1 = 0 := rfl
      have hk0 : ¬ k = 0 := by omega
      clear h0 h1 ra rb hk
      go_enter Tryd.func3, Tryd.ntmps3
      go_wp2_with (first
        | (go_at_call 14; refine (awake02 _ HT.out).mono ?_; rintro e w1 ⟨rfl, hb1⟩; have HB1 := Aside0.mk hb1; clear hb1)
        | ((go_at_call 15; with_reducible refine (HA.out _).mono ?_); rintro e w' ⟨rfl, rfl⟩)
        | ((go_at_call 15; with_reducible refine (HB.out _).mono ?_); rintro e w' ⟨rfl, rfl⟩)
        | ((go_at_call 16; with_reducible refine (HC.out _).mono ?_); rintro e w' ⟨rfl, rfl⟩))
      go_ret
      exact ⟨rfl, HB1.out⟩
    · obtain ⟨m, hm⟩ : ∃ m, kd b = m := ⟨_, rfl⟩
      obtain ⟨r, hr⟩ : ∃ m, cp b a = m := ⟨_, rfl⟩
      have HB := Aside0.mk (kind_at b m hb hm)
      have HC := Aside0.mk (cmp_at b a r hb ha hr)
      have HD := Aside0.mk (cmp_at (ng a) (ng b) r hga hgb (by rw [cp_ng a b ha hb (nan_of a h0) (nan_of b h1), hr]))
      have HN := Aside0.mk (kind_at (ng a) (7 - k) hga (by rw [kd_ng a ha (nan_of a h0), hk]))
      have hk0 : (k == 0) = false := beq_eq_false_iff_ne.2 (by omega)
      have hm0 : (m == 0) = false := beq_eq_false_iff_ne.2 (by omega)
      have hrr : (r == r) = true := beq_self_eq_true r
      clear h0 h1 ra rb hk hm hr
      go_enter Tryd.func3, Tryd.ntmps3
      go_wp2_with (first
        | (go_at_call 14; refine (awake02 _ HT.out).mono ?_; rintro e w1 ⟨rfl, hb1⟩; have HB1 := Aside0.mk hb1; clear hb1)
        | ((go_at_call 15; with_reducible refine (HA.out _).mono ?_); rintro e w' ⟨rfl, rfl⟩)
        | ((go_at_call 15; with_reducible refine (HB.out _).mono ?_); rintro e w' ⟨rfl, rfl⟩)
        | ((go_at_call 15; with_reducible refine (HN.out _).mono ?_); rintro e w' ⟨rfl, rfl⟩)
        | ((go_at_call 16; with_reducible refine (HC.out _).mono ?_); rintro e w' ⟨rfl, rfl⟩)
        | ((go_at_call 16; with_reducible refine (HD.out _).mono ?_); rintro e w' ⟨rfl, rfl⟩))
      go_ret
      exact ⟨rfl, HB1.out⟩
end Go.Proofs.YthpmhjlndnelfaaDoor.Real
