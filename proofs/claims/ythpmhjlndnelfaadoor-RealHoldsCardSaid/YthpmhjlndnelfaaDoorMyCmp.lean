/- Kind and Cmp: their contracts; the order that Cmp tells is that of one number each. The condition: 64 bits. -/
import Derived.Test.YthpmhjlndnelfaaDoorMyKind
namespace Go.Proofs.YthpmhjlndnelfaaDoor.Real
open Go.RowKit Go.Lib Go.Proofs.YthpmhjlndnelfaaDoorW.PrintWords

theorem kind_any (b : Nat) (hb : b < 18446744073709551616) (w : World) : Calls Tryd.prog 15 #[.float .f64 b] w fun e w' => e = .returned (.int .i64 (kd b)) ∧ w = w' := by
  have c1 := isnan_any b hb
  have c2 := isinf_minus b hb
  have c3 := signbit_any b hb
  have c4 := isinf_plus b hb
  have t1 := t_lt0 b hb
  have t2 := t_eq0 b hb
  have hk : kd b = kd b := rfl
  conv at hk => rhs; unfold kd
  cases hn : nan b <;> cases hm : ninf b <;> cases hl : lt0 b <;> cases he : eq0 b <;> cases hs : sg b <;> cases hp : pinf b
  all_goals
    rw [hn] at c1
    rw [hm] at c2
    rw [hs] at c3
    rw [hp] at c4
    rw [hl] at t1
    rw [he] at t2
    rw [hn, hm, hl, he, hs, hp] at hk
    have HK := Aside0.mk hk
    have C1 := Aside0.mk c1
    have C2 := Aside0.mk c2
    have C3 := Aside0.mk c3
    have C4 := Aside0.mk c4
    clear hk c1 c2 c3 c4 hn hm hl he hs hp
    go_enter Tryd.func15, Tryd.ntmps15
    go_wp2_with (first
      | (go_at_call 27; refine (C1.out _).mono ?_; rintro e w' ⟨rfl, rfl⟩)
      | (go_at_call 56; first | ((with_reducible refine (C2.out _).mono ?_); rintro e w' ⟨rfl, rfl⟩) | ((with_reducible refine (C4.out _).mono ?_); rintro e w' ⟨rfl, rfl⟩))
      | (go_at_call 57; refine (C3.out _).mono ?_; rintro e w' ⟨rfl, rfl⟩))
    go_ret
    exact ⟨by rw [HK.out]; rfl, rfl⟩

/-- Which of two integers is ahead. -/
def ci (x y : Int) : Int := if x < y then -1 else if y < x then 1 else 0

theorem isnan_int (x : Int) (w : World) : Calls Tryd.prog 76 #[.int .i64 x] w fun e w' => e = .returned (.bool false) ∧ w = w' := by
  go_enter Tryd.func76, Tryd.ntmps76
  go_wp2
  go_ret
  exact ⟨rfl, rfl⟩

theorem cmp_int_any (x y : Int) (w : World) : Calls Tryd.prog 58 #[.int .i64 x, .int .i64 y] w fun e w' => e = .returned (.int .i64 (ci x y)) ∧ w = w' := by
  unfold ci
  rcases Int.lt_trichotomy x y with h | h | h
  · rw [if_pos h]
    go_enter Tryd.func58, Tryd.ntmps58
    go_wp2_with (go_at_call 76; refine (isnan_int _ _).mono ?_; rintro e w' ⟨rfl, rfl⟩)
    go_ret
    exact ⟨rfl, rfl⟩
  · subst h
    rw [if_neg (by omega), if_neg (by omega)]
    go_enter Tryd.func58, Tryd.ntmps58
    go_wp2_with (go_at_call 76; refine (isnan_int _ _).mono ?_; rintro e w' ⟨rfl, rfl⟩)
    go_ret
    exact ⟨rfl, rfl⟩
  · have h2 : ¬ x < y := by omega
    rw [if_neg h2, if_pos h]
    go_enter Tryd.func58, Tryd.ntmps58
    go_wp2_with (go_at_call 76; refine (isnan_int _ _).mono ?_; rintro e w' ⟨rfl, rfl⟩)
    go_ret
    exact ⟨rfl, rfl⟩

theorem isnan_f (b : Nat) (hb : b < 18446744073709551616) (w : World) : Calls Tryd.prog 77 #[.float .f64 b] w fun e w' => e = .returned (.bool (nan b)) ∧ w = w' := by
  have h := t_nan b hb
  go_enter Tryd.func77, Tryd.ntmps77
  go_wp2
  go_ret
  exact ⟨rfl, rfl⟩

theorem cmp_f (a b : Nat) (ha : a < 18446744073709551616) (hb : b < 18446744073709551616) (h1 : nan a = false) (h2 : nan b = false) (w : World) :
    Calls Tryd.prog 59 #[.float .f64 a, .float .f64 b] w fun e w' => e = .returned (.int .i64 (ci (key a) (key b))) ∧ w = w' := by
  have c1 := isnan_f a ha
  have c2 := isnan_f b hb
  rw [h1] at c1
  rw [h2] at c2
  have ho := order_key a b ha hb h1 h2
  rw [cmp_int] at ho
  unfold ci
  have C1 := Aside0.mk c1
  have C2 := Aside0.mk c2
  clear c1 c2 h1 h2
  rcases Int.lt_trichotomy (key a) (key b) with h | h | h
  · rw [if_pos h] at ho
    rw [if_pos h]
    have hf : FloatKind.f64.format.order a b = some Ordering.lt := ho
    clear h ho
    go_enter Tryd.func59, Tryd.ntmps59
    go_wp2_with (first
      | ((go_at_call 77; with_reducible refine (C1.out _).mono ?_); rintro e w' ⟨rfl, rfl⟩)
      | ((go_at_call 77; with_reducible refine (C2.out _).mono ?_); rintro e w' ⟨rfl, rfl⟩))
    go_ret
    exact ⟨rfl, rfl⟩
  · rw [if_neg (by omega), if_pos h] at ho
    rw [if_neg (by omega), if_neg (by omega)]
    have hf : FloatKind.f64.format.order a b = some Ordering.eq := ho
    clear h ho
    go_enter Tryd.func59, Tryd.ntmps59
    go_wp2_with (first
      | ((go_at_call 77; with_reducible refine (C1.out _).mono ?_); rintro e w' ⟨rfl, rfl⟩)
      | ((go_at_call 77; with_reducible refine (C2.out _).mono ?_); rintro e w' ⟨rfl, rfl⟩))
    go_ret
    exact ⟨rfl, rfl⟩
  · rw [if_neg (by omega), if_neg (by omega)] at ho
    rw [if_neg (by omega), if_pos h]
    have hf : FloatKind.f64.format.order a b = some Ordering.gt := ho
    clear h ho
    go_enter Tryd.func59, Tryd.ntmps59
    go_wp2_with (first
      | ((go_at_call 77; with_reducible refine (C1.out _).mono ?_); rintro e w' ⟨rfl, rfl⟩)
      | ((go_at_call 77; with_reducible refine (C2.out _).mono ?_); rintro e w' ⟨rfl, rfl⟩))
    go_ret
    exact ⟨rfl, rfl⟩

/-- One number for each float, in Cmp's order. -/
def tk (b : Nat) : Int := if nan b then -18446744073709551616 else if sg b then -(rg b : Int) - 1 else (rg b : Int)

theorem kd_nan (b : Nat) : kd b = 0 ↔ nan b = true := by
  unfold kd
  cases nan b <;> cases ninf b <;> cases lt0 b <;> cases eq0 b <;> cases sg b <;> cases pinf b <;> simp

theorem rg_le (b : Nat) : rg b < 9223372036854775808 := Nat.mod_lt _ (Nat.zero_lt_succ _)

/-- The kind, by the place. -/
theorem kd_tk (b : Nat) : kd b = if tk b = -18446744073709551616 then 0 else if tk b = -9218868437227405313 then 1 else if tk b < -1 then 2 else if tk b = -1 then 3 else if tk b = 0 then 4 else if tk b = 9218868437227405312 then 6 else 5 := by
  have hr := rg_le b
  unfold kd tk ninf lt0 eq0 pinf key
  cases hn : nan b
  · unfold nan at hn
    rw [decide_eq_false_iff_not] at hn
    cases hs : sg b
    · simp only [if_false, Bool.false_eq_true, Bool.false_and, Bool.not_false, Bool.true_and, Bool.and_false]
      rw [decide_eq_false (show ¬ (rg b : Int) < 0 by omega)]
      simp only [if_false, Bool.false_eq_true, decide_eq_true_eq]
      by_cases h0 : rg b = 0
      · rw [if_pos h0, if_neg (by omega), if_neg (by omega), if_neg (by omega), if_neg (by omega), if_pos (by omega)]
      · rw [if_neg h0, if_neg (show ¬ (rg b : Int) = -18446744073709551616 by omega), if_neg (show ¬ (rg b : Int) = -9218868437227405313 by omega), if_neg (show ¬ (rg b : Int) < -1 by omega), if_neg (show ¬ (rg b : Int) = -1 by omega), if_neg (show ¬ (rg b : Int) = 0 by omega)]
        by_cases h1 : rg b = 9218868437227405312
        · rw [if_pos h1, if_pos (by omega)]
        · rw [if_neg h1, if_neg (by omega)]
    · simp only [if_true, if_false, Bool.false_eq_true, Bool.true_and, Bool.not_false, Bool.and_true, decide_eq_true_eq]
      by_cases h1 : rg b = 9218868437227405312
      · rw [if_pos h1, if_neg (by omega), if_pos (by omega)]
      · rw [if_neg h1, if_neg (show ¬ -(rg b : Int) - 1 = -18446744073709551616 by omega), if_neg (show ¬ -(rg b : Int) - 1 = -9218868437227405313 by omega)]
        by_cases h0 : rg b = 0
        · rw [if_neg (by omega), if_pos h0, if_neg (by omega), if_pos (by omega)]
        · rw [if_pos (by omega), if_pos (by omega)]
  · simp

def cp (a b : Nat) : Int := ci (tk a) (tk b)

theorem tk_cases (b : Nat) : (tk b = -18446744073709551616 ∧ kd b = 0) ∨ (key b = tk b + 1 ∧ ((tk b = -9218868437227405313 ∧ kd b = 1) ∨ (-9218868437227405313 < tk b ∧ tk b < -1 ∧ kd b = 2) ∨ (tk b = -1 ∧ kd b = 3))) ∨
    (key b = tk b ∧ ((tk b = 0 ∧ kd b = 4) ∨ (0 < tk b ∧ tk b < 9218868437227405312 ∧ kd b = 5) ∨ (tk b = 9218868437227405312 ∧ kd b = 6))) := by
  have h := kd_tk b
  have hr := rg_le b
  cases hn : nan b
  · have ht : tk b = if sg b then -(rg b : Int) - 1 else (rg b : Int) := by unfold tk; rw [hn]; rfl
    have hk : key b = if sg b then -(rg b : Int) else (rg b : Int) := rfl
    unfold nan at hn
    rw [decide_eq_false_iff_not] at hn
    cases hs : sg b
    · rw [hs] at ht hk
      simp only [if_false, Bool.false_eq_true] at ht hk
      right; right
      refine ⟨by omega, ?_⟩
      rw [if_neg (by omega), if_neg (by omega), if_neg (by omega), if_neg (by omega)] at h
      by_cases h0 : tk b = 0
      · rw [if_pos h0] at h; exact .inl ⟨h0, h⟩
      · rw [if_neg h0] at h
        by_cases h1 : tk b = 9218868437227405312
        · rw [if_pos h1] at h; exact .inr (.inr ⟨h1, h⟩)
        · rw [if_neg h1] at h; exact .inr (.inl ⟨by omega, by omega, h⟩)
    · rw [hs] at ht hk
      simp only [if_true] at ht hk
      right; left
      refine ⟨by omega, ?_⟩
      rw [if_neg (by omega)] at h
      by_cases h0 : tk b = -9218868437227405313
      · rw [if_pos h0] at h; exact .inl ⟨h0, h⟩
      · rw [if_neg h0] at h
        by_cases h1 : tk b < -1
        · rw [if_pos h1] at h; exact .inr (.inl ⟨by omega, h1, h⟩)
        · rw [if_neg h1, if_pos (by omega)] at h; exact .inr (.inr ⟨by omega, h⟩)
  · left
    have ht : tk b = -18446744073709551616 := by unfold tk; rw [hn]; rfl
    exact ⟨ht, by rw [h, if_pos ht]⟩

theorem ci_lt {x y : Int} (h : x < y) : ci x y = -1 := if_pos h
theorem ci_gt {x y : Int} (h : y < x) : ci x y = 1 := by unfold ci; rw [if_neg (by omega), if_pos h]
theorem ci_eq {x y : Int} (h : x = y) : ci x y = 0 := by unfold ci; rw [if_neg (by omega), if_neg (by omega)]

theorem cp_eq (a b : Nat) : cp a b = if ci (kd a) (kd b) ≠ 0 then ci (kd a) (kd b) else if kd a = 0 then 0 else ci (key a) (key b) := by
  have ha := tk_cases a
  have hb := tk_cases b
  unfold cp
  generalize tk a = x at *
  generalize tk b = y at *
  generalize kd a = k at *
  generalize kd b = m at *
  generalize key a = u at *
  generalize key b = v at *
  rcases Int.lt_trichotomy k m with h | h | h
  · rw [ci_lt h, if_pos (by decide), ci_lt (by omega)]
  · rw [ci_eq h, if_neg (by decide)]
    by_cases h0 : k = 0
    · rw [if_pos h0, ci_eq (by omega)]
    · rw [if_neg h0]
      rcases Int.lt_trichotomy x y with g | g | g
      · rw [ci_lt g, ci_lt (by omega)]
      · rw [ci_eq g, ci_eq (by omega)]
      · rw [ci_gt g, ci_gt (by omega)]
  · rw [ci_gt h, if_pos (by decide), ci_gt (by omega)]

theorem cmp_any (a b : Nat) (ha : a < 18446744073709551616) (hb : b < 18446744073709551616) (w : World) :
    Calls Tryd.prog 16 #[.float .f64 a, .float .f64 b] w fun e w' => e = .returned (.int .i64 (cp a b)) ∧ w = w' := by
  have hcp := cp_eq a b
  have ka := kind_any a ha
  have kb := kind_any b hb
  obtain ⟨k, hk⟩ : ∃ k, kd a = k := ⟨_, rfl⟩
  obtain ⟨m, hm⟩ : ∃ k, kd b = k := ⟨_, rfl⟩
  obtain ⟨r, hr⟩ : ∃ k, cp a b = k := ⟨_, rfl⟩
  have hna := kd_nan a
  have hnb := kd_nan b
  rw [hk] at ka hna
  rw [hm] at kb hnb
  rw [hr]
  rw [hk, hm, hr] at hcp
  have KA := Aside0.mk ka
  have KB := Aside0.mk kb
  clear ka kb hk hm hr
  by_cases h1 : ci k m = 0
  · rw [if_neg (by simpa using h1)] at hcp
    have hkm : k = m := by unfold ci at h1; split at h1 <;> (try split at h1) <;> omega
    by_cases h2 : k = 0
    · rw [if_pos h2] at hcp
      subst hcp
      subst h2
      subst hkm
      have HC := Aside0.mk (cmp_int_any 0 0)
      clear hna hnb h1
      go_enter Tryd.func16, Tryd.ntmps16
      go_wp2_with (first
        | ((go_at_call 15; with_reducible refine (KA.out _).mono ?_); rintro e w' ⟨rfl, rfl⟩)
        | ((go_at_call 15; with_reducible refine (KB.out _).mono ?_); rintro e w' ⟨rfl, rfl⟩)
        | (go_at_call 58; refine (HC.out _).mono ?_; rintro e w' ⟨rfl, rfl⟩))
      go_ret
      exact ⟨rfl, rfl⟩
    · rw [if_neg h2] at hcp
      have na : nan a = false := by cases h : nan a with | false => rfl | true => exact absurd (hna.2 h) h2
      have nb : nan b = false := by cases h : nan b with | false => rfl | true => exact absurd (hnb.2 h) (by omega)
      have hc := cmp_int_any k m
      rw [h1] at hc
      have hf := cmp_f a b ha hb na nb
      rw [← hcp] at hf
      have HC := Aside0.mk hc
      have HF := Aside0.mk hf
      clear hna hnb h1 hkm hc hf na nb hcp
      go_enter Tryd.func16, Tryd.ntmps16
      go_wp2_with (first
        | ((go_at_call 15; with_reducible refine (KA.out _).mono ?_); rintro e w' ⟨rfl, rfl⟩)
        | ((go_at_call 15; with_reducible refine (KB.out _).mono ?_); rintro e w' ⟨rfl, rfl⟩)
        | (go_at_call 58; refine (HC.out _).mono ?_; rintro e w' ⟨rfl, rfl⟩)
        | (go_at_call 59; refine (HF.out _).mono ?_; rintro e w' ⟨rfl, rfl⟩))
      go_ret
      exact ⟨rfl, rfl⟩
  · rw [if_pos h1] at hcp
    have hc := cmp_int_any k m
    rw [← hcp] at hc h1
    have HC := Aside0.mk hc
    clear hna hnb hc hcp
    go_enter Tryd.func16, Tryd.ntmps16
    go_wp2_with (first
      | ((go_at_call 15; with_reducible refine (KA.out _).mono ?_); rintro e w' ⟨rfl, rfl⟩)
      | ((go_at_call 15; with_reducible refine (KB.out _).mono ?_); rintro e w' ⟨rfl, rfl⟩)
      | (go_at_call 58; refine (HC.out _).mono ?_; rintro e w' ⟨rfl, rfl⟩))
    go_ret
    exact ⟨rfl, rfl⟩
end Go.Proofs.YthpmhjlndnelfaaDoor.Real
