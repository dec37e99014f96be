/- Plain laws on floats of 64 bits: the order that the machine tells is that of their places. No conditions but the width. -/
import Derived.Test.YthpmhjlndnelfaaDoorOwnFloat
namespace Go.Proofs.YthpmhjlndnelfaaDoor.Real

theorem f64 : FloatKind.f64.format = Ieee.double := rfl
theorem c_sw : Ieee.double.signWeight = 9223372036854775808 := by decide
theorem c_bi : Ieee.double.binade = 4503599627370496 := by decide
theorem c_inf : Ieee.double.infRung = 9218868437227405312 := by decide

theorem read_eq (b : Nat) (hb : b < 18446744073709551616) : Ieee.double.read b =
    if rg b < 4503599627370496 then .number (sg b) (rg b) Ieee.double.leastPlace
    else if rg b < 9218868437227405312 then .number (sg b) (4503599627370496 + rg b % 4503599627370496) (Ieee.double.leastPlace + (rg b / 4503599627370496 - 1 : Nat))
    else if rg b = 9218868437227405312 then .infinity (sg b) else .nan (sg b) (rg b - 9218868437227405312) := by
  unfold Ieee.Format.read
  simp only [c_sw, c_bi, c_inf]
  have e : (b / 9223372036854775808 % 2 == 1) = sg b := by
    unfold sg
    rw [Bool.eq_iff_iff, beq_iff_eq, decide_eq_true_eq]
    omega
  rw [e]
  rfl

theorem read_num (b : Nat) (hb : b < 18446744073709551616) (h : rg b < 9218868437227405312) :
    ∃ m p : Nat, Ieee.double.read b = .number (sg b) m (Ieee.double.leastPlace + (p : Int)) ∧ m * 2 ^ p = vl 4503599627370496 (rg b) := by
  rw [read_eq b hb]
  unfold vl
  by_cases h1 : rg b < 4503599627370496
  · rw [if_pos h1, if_pos h1]
    exact ⟨rg b, 0, by simp, by simp⟩
  · rw [if_neg h1, if_neg h1, if_pos h]
    exact ⟨_, _, rfl, rfl⟩

theorem read_inf (b : Nat) (hb : b < 18446744073709551616) (h : rg b = 9218868437227405312) : Ieee.double.read b = .infinity (sg b) := by
  rw [read_eq b hb, if_neg (by omega), if_neg (by omega), if_pos h]

theorem read_nan (b : Nat) (hb : b < 18446744073709551616) (h : nan b = true) : ∃ t, Ieee.double.read b = .nan (sg b) t := by
  unfold nan at h
  rw [decide_eq_true_eq] at h
  rw [read_eq b hb, if_neg (by omega), if_neg (by omega), if_neg (by omega)]
  exact ⟨_, rfl⟩

theorem key_sgn (b : Nat) : key b = sgn (sg b) (rg b) := rfl

theorem order_nan_left (b c : Nat) (hb : b < 18446744073709551616) (h : nan b = true) : Ieee.double.order b c = none := by
  obtain ⟨t, e⟩ := read_nan b hb h
  unfold Ieee.Format.order
  rw [e]
  rfl

theorem order_nan_right (b c : Nat) (hc : c < 18446744073709551616) (h : nan c = true) : Ieee.double.order b c = none := by
  obtain ⟨t, e⟩ := read_nan c hc h
  unfold Ieee.Format.order
  rw [e]
  cases Ieee.double.read b <;> rfl

theorem order_key (b c : Nat) (hb : b < 18446744073709551616) (hc : c < 18446744073709551616) (h1 : nan b = false) (h2 : nan c = false) : Ieee.double.order b c = some (compare (key b) (key c)) := by
  unfold nan at h1 h2
  rw [decide_eq_false_iff_not] at h1 h2
  unfold Ieee.Format.order
  by_cases i1 : rg b = 9218868437227405312
  · rw [read_inf b hb i1]
    by_cases i2 : rg c = 9218868437227405312
    · rw [read_inf c hc i2]
      simp only [Ieee.Datum.order, key_sgn, i1, i2]
      cases sg b <;> cases sg c <;> rfl
    · obtain ⟨m, p, e, _⟩ := read_num c hc (by omega)
      rw [e]
      simp only [Ieee.Datum.order, key_sgn, i1, cmp_int]
      unfold sgn
      cases sg b <;> cases sg c <;> simp only [if_true, if_false, Bool.false_eq_true] <;> (refine congrArg some ?_; first | rfl | (split <;> (try split) <;> first | rfl | (exfalso; omega)))
  · obtain ⟨m, p, e, em⟩ := read_num b hb (by omega)
    rw [e]
    by_cases i2 : rg c = 9218868437227405312
    · rw [read_inf c hc i2]
      simp only [Ieee.Datum.order, key_sgn, i2, cmp_int]
      unfold sgn
      cases sg b <;> cases sg c <;> simp only [if_true, if_false, Bool.false_eq_true] <;> (refine congrArg some ?_; (split <;> (try split) <;> first | rfl | (exfalso; omega)))
    · obtain ⟨n, q, e2, en⟩ := read_num c hc (by omega)
      have hz : 0 < 4503599627370496 := Nat.zero_lt_succ _
      have hs := sgn_cmp 4503599627370496 hz (sg b) (sg c) (rg b) (rg c)
      rw [e2, cmp_num, em, en]
      exact congrArg some hs
end Go.Proofs.YthpmhjlndnelfaaDoor.Real
