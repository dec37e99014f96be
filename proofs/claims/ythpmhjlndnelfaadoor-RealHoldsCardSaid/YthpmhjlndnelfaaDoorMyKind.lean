/- Kind: its contract, and those of what it calls. The condition: 64 bits. -/
import Derived.Test.YthpmhjlndnelfaaDoorMyFtoa
import Derived.Test.YthpmhjlndnelfaaDoorOwnFloat2
namespace Go.Proofs.YthpmhjlndnelfaaDoor.Real
open Go.RowKit Go.Lib Go.Proofs.YthpmhjlndnelfaaDoorW.PrintWords

def ng (b : Nat) : Nat := if sg b then b - 9223372036854775808 else b + 9223372036854775808

theorem xor_top (x : Nat) (h : x < 2 ^ 63) : x ^^^ 2 ^ 63 = x + 2 ^ 63 := by
  have e1 := Nat.two_pow_add_eq_or_of_lt h 1
  rw [Nat.mul_one] at e1
  rw [Nat.add_comm, e1]
  apply Nat.eq_of_testBit_eq
  intro j
  rw [Nat.testBit_xor, Nat.testBit_or]
  by_cases hj : j = 63
  · subst hj
    rw [Nat.testBit_lt_two_pow h]
    simp
  · rw [Nat.testBit_two_pow]
    simp [show ¬ 63 = j from fun e => hj e.symm]

theorem neg_eq (b : Nat) (hb : b < 18446744073709551616) : Op.negFloat .f64 b = ng b := by
  have e : Op.negFloat .f64 b = b ^^^ 2 ^ 63 := rfl
  rw [e]
  unfold ng sg
  by_cases h : 9223372036854775808 ≤ b
  · rw [decide_eq_true h, if_pos rfl]
    obtain ⟨x, rfl⟩ : ∃ x, b = x + 2 ^ 63 := ⟨b - 2 ^ 63, by omega⟩
    rw [← xor_top x (by omega), Nat.xor_assoc, Nat.xor_self, Nat.xor_zero, xor_top x (by omega)]
    omega
  · rw [decide_eq_false h, if_neg (by simp), xor_top b (by omega)]

theorem ng_lt (b : Nat) (hb : b < 18446744073709551616) : ng b < 18446744073709551616 := by
  unfold ng sg
  by_cases h : 9223372036854775808 ≤ b
  · rw [decide_eq_true h, if_pos rfl]; omega
  · rw [decide_eq_false h, if_neg (by simp)]; omega

theorem ng_facts (b : Nat) (hb : b < 18446744073709551616) : sg (ng b) = !sg b ∧ rg (ng b) = rg b ∧ nan (ng b) = nan b ∧ key (ng b) = - key b := by
  have h1 : rg (ng b) = rg b := by
    unfold ng sg rg
    by_cases h : 9223372036854775808 ≤ b
    · rw [decide_eq_true h, if_pos rfl]; omega
    · rw [decide_eq_false h, if_neg (by simp)]; omega
  have h2 : sg (ng b) = !sg b := by
    unfold ng
    by_cases h : 9223372036854775808 ≤ b
    · have e : sg b = true := decide_eq_true h
      rw [e, if_pos rfl]
      exact decide_eq_false (by omega)
    · have e : sg b = false := decide_eq_false h
      rw [e, if_neg (by simp)]
      exact decide_eq_true (by omega)
  refine ⟨h2, h1, by unfold nan; rw [h1], ?_⟩
  unfold key
  rw [h1, h2]
  cases sg b <;> simp

def lt0 (b : Nat) : Bool := !nan b && decide (key b < 0)
def eq0 (b : Nat) : Bool := decide (rg b = 0)
def pinf (b : Nat) : Bool := !sg b && decide (rg b = 9218868437227405312)
def ninf (b : Nat) : Bool := sg b && decide (rg b = 9218868437227405312)

def kd (b : Nat) : Int := if nan b then 0 else if ninf b then 1 else if lt0 b then 2 else if eq0 b && sg b then 3 else if eq0 b then 4 else if pinf b then 6 else 5

theorem nan_zero : nan 0 = false := by decide
theorem key_zero : key 0 = 0 := by decide
theorem nan_max : nan 9218868437227405311 = false := by decide
theorem key_max : key 9218868437227405311 = 9218868437227405311 := by decide

theorem t_nan (b : Nat) (hb : b < 18446744073709551616) : (FloatKind.f64.format.order b b != some Ordering.eq) = nan b := by
  rw [f64]
  cases h : nan b with
  | true => rw [order_nan_left b b hb h]; rfl
  | false => rw [order_key b b hb hb h h, cmp_int, if_neg (by omega), if_pos rfl]; rfl

theorem t_lt0 (b : Nat) (hb : b < 18446744073709551616) : (FloatKind.f64.format.order b 0 == some Ordering.lt) = lt0 b := by
  rw [f64]
  unfold lt0
  cases h : nan b with
  | true => rw [order_nan_left b 0 hb h]; rfl
  | false =>
    rw [order_key b 0 hb (by omega) h nan_zero, key_zero, cmp_int]
    by_cases h1 : key b < 0
    · rw [if_pos h1, decide_eq_true h1]; rfl
    · rw [if_neg h1, decide_eq_false h1]; split <;> rfl

theorem t_eq0 (b : Nat) (hb : b < 18446744073709551616) : (FloatKind.f64.format.order b 0 == some Ordering.eq) = eq0 b := by
  rw [f64]
  unfold eq0
  cases h : nan b with
  | true =>
    rw [order_nan_left b 0 hb h]
    unfold nan at h
    rw [decide_eq_true_eq] at h
    rw [decide_eq_false (by omega)]; rfl
  | false =>
    rw [order_key b 0 hb (by omega) h nan_zero, key_zero, cmp_int]
    have hk : key b = 0 ↔ rg b = 0 := by unfold key; split <;> omega
    by_cases h1 : rg b = 0
    · have h2 := hk.2 h1
      rw [if_neg (by omega), if_pos h2, decide_eq_true h1]; rfl
    · have h2 : ¬ key b = 0 := fun e => h1 (hk.1 e)
      rw [if_neg h2, decide_eq_false h1]
      split <;> rfl

theorem t_pinf (b : Nat) (hb : b < 18446744073709551616) : (FloatKind.f64.format.order b 9218868437227405311 == some Ordering.gt) = pinf b := by
  rw [f64]
  unfold pinf
  cases h : nan b with
  | true =>
    rw [order_nan_left b _ hb h]
    unfold nan at h
    rw [decide_eq_true_eq] at h
    rw [decide_eq_false (show ¬ rg b = 9218868437227405312 by omega)]
    cases sg b <;> rfl
  | false =>
    rw [order_key b _ hb (by omega) h nan_max, key_max, cmp_int]
    unfold nan at h
    rw [decide_eq_false_iff_not] at h
    cases hs : sg b with
    | true =>
      have hk : key b = -(rg b : Int) := by unfold key; rw [hs]; rfl
      rw [if_pos (show key b < 9218868437227405311 by omega)]; rfl
    | false =>
      have hk : key b = (rg b : Int) := by unfold key; rw [hs]; rfl
      by_cases h1 : rg b = 9218868437227405312
      · rw [if_neg (show ¬ key b < 9218868437227405311 by omega), if_neg (show ¬ key b = 9218868437227405311 by omega), decide_eq_true h1]; rfl
      · rw [decide_eq_false h1]
        by_cases h2 : key b < 9218868437227405311
        · rw [if_pos h2]; rfl
        · rw [if_neg h2, if_pos (show key b = 9218868437227405311 by omega)]; rfl

theorem isnan_any (b : Nat) (hb : b < 18446744073709551616) (w : World) : Calls Tryd.prog 27 #[.float .f64 b] w fun e w' => e = .returned (.bool (nan b)) ∧ w = w' := by
  have h := t_nan b hb
  go_enter Tryd.func27, Tryd.ntmps27
  go_wp2
  go_ret
  exact ⟨rfl, rfl⟩

theorem isinf_plus (b : Nat) (hb : b < 18446744073709551616) (w : World) : Calls Tryd.prog 56 #[.float .f64 b, .int .i64 1] w fun e w' => e = .returned (.bool (pinf b)) ∧ w = w' := by
  have h := t_pinf b hb
  go_enter Tryd.func56, Tryd.ntmps56
  go_wp2
  go_ret
  exact ⟨rfl, rfl⟩

theorem un_neg (b : Nat) (hb : b < 18446744073709551616) : Op.unary .neg (.float .f64 b) = pure (.float .f64 (ng b)) := by
  have : Op.unary .neg (.float .f64 b) = pure (.float .f64 (Op.negFloat .f64 b)) := rfl
  rw [this, neg_eq b hb]

theorem isinf_minus (b : Nat) (hb : b < 18446744073709551616) (w : World) : Calls Tryd.prog 56 #[.float .f64 b, .int .i64 (-1)] w fun e w' => e = .returned (.bool (ninf b)) ∧ w = w' := by
  have hn := ng_facts b hb
  have h := t_pinf (ng b) (ng_lt b hb)
  have e : pinf (ng b) = ninf b := by
    unfold pinf ninf
    rw [hn.1, hn.2.1, Bool.not_not]
  rw [e] at h
  have hu := un_neg b hb
  clear hn e
  go_enter Tryd.func56, Tryd.ntmps56
  go_wp2
  go_ret
  exact ⟨rfl, rfl⟩

theorem signbit_any (b : Nat) (hb : b < 18446744073709551616) (w : World) : Calls Tryd.prog 57 #[.float .f64 b] w fun e w' => e = .returned (.bool (sg b)) ∧ w = w' := by
  have h69 := fun W => f69 b W
  have h : decide (wrap64 (b : Int) < 0) = sg b := by
    unfold sg wrap64
    rw [decide_eq_decide]
    omega
  go_enter Tryd.func57, Tryd.ntmps57
  go_wp2
  go_ret
  exact ⟨rfl, rfl⟩
end Go.Proofs.YthpmhjlndnelfaaDoor.Real
