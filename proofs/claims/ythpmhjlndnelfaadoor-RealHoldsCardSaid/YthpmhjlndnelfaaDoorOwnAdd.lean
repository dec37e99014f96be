/- Plain laws on floats of 64 bits: a number twice. No conditions but the width. -/
import Derived.Test.YthpmhjlndnelfaaDoorMyCmp
namespace Go.Proofs.YthpmhjlndnelfaaDoor.Real

theorem c_least : Ieee.double.leastPlace = -1074 := by decide
theorem c_frac : Ieee.double.fractionBits = 52 := rfl

theorem word_of (s : Bool) (r : Nat) : Ieee.double.word s r = if s then 9223372036854775808 + r else r := by
  unfold Ieee.Format.word
  rw [c_sw]

theorem cut_one (s : Bool) (m : Nat) : Ieee.Toward.even.cut s (2 * m) 1 = m := by
  unfold Ieee.Toward.cut
  have e1 : min 1 ((2 * m).log2 + 2) = 1 := by omega
  have e2 : 2 * m / 2 = m := by omega
  have e3 : 2 * m % 2 = 0 := by omega
  simp [e1, e2, e3]

theorem cut_zero (s : Bool) (m : Nat) : Ieee.Toward.even.cut s m 0 = m := by
  unfold Ieee.Toward.cut
  have e3 : m % 1 = 0 := Nat.mod_one m
  simp [e3]

theorem log_of (n k : Nat) (h1 : 2 ^ k ≤ n) (h2 : n < 2 ^ (k + 1)) : n.log2 = k := by
  have hn : n ≠ 0 := by have := Nat.two_pow_pos k; omega
  have a := (Nat.le_log2 hn).2 h1
  have b := (Nat.log2_lt hn).2 h2
  omega

theorem near_normal (s : Bool) (m p : Nat) (h1 : 4503599627370496 ≤ m) (h2 : m < 9007199254740992) :
    Ieee.double.nearest s (2 * m) (Ieee.double.leastPlace + (p : Int)) = Ieee.double.word s (min ((p + 1) * 4503599627370496 + m) 9218868437227405312) := by
  have hl : (2 * m).log2 = 53 := log_of _ 53 (by omega) (by omega)
  unfold Ieee.Format.nearest
  rw [if_neg (by omega), hl, c_least, c_frac, c_bi, c_inf]
  have e1 : max ((-1074 : Int) + (p : Int) + ((53 : Nat) : Int) - ((52 : Nat) : Int)) (-1074) = -1074 + (p : Int) + 1 := by omega
  simp only [e1]
  have e2 : ((-1074 : Int) + (p : Int) - (-1074 + (p : Int) + 1)).toNat = 0 := by omega
  have e3 : ((-1074 : Int) + (p : Int) + 1 - (-1074 + (p : Int))).toNat = 1 := by omega
  have e4 : ((-1074 : Int) + (p : Int) + 1 - -1074).toNat = p + 1 := by omega
  rw [e2, e3, e4, Nat.shiftLeft_zero, cut_one]

theorem near_small (s : Bool) (m : Nat) (h1 : m ≠ 0) (h2 : m < 4503599627370496) :
    Ieee.double.nearest s (2 * m) Ieee.double.leastPlace = Ieee.double.word s (2 * m) := by
  have hl : (2 * m).log2 < 53 := (Nat.log2_lt (by omega)).2 (by omega)
  unfold Ieee.Format.nearest
  rw [if_neg (by omega), c_least, c_frac, c_bi, c_inf]
  have e1 : max ((-1074 : Int) + ((2 * m).log2 : Int) - ((52 : Nat) : Int)) (-1074) = -1074 := by omega
  simp only [e1]
  have e2 : ((-1074 : Int) - -1074).toNat = 0 := by omega
  rw [e2, Nat.shiftLeft_zero, cut_zero, Nat.zero_mul, Nat.zero_add, Nat.min_eq_left (by omega)]

theorem sum_self (s : Bool) (m : Nat) (i : Int) (h : m ≠ 0) : (Ieee.Datum.number s m i).sum (.number s m i) = some (.number s (2 * m) i) := by
  simp only [Ieee.Datum.sum]
  have e1 : min i i = i := by omega
  have e2 : (i - i).toNat = 0 := by omega
  rw [e1, e2, signed_eq]
  unfold sgn
  cases s
  · simp only [if_false, Bool.false_eq_true, Nat.pow_zero, Nat.mul_one]
    rw [if_neg (by omega)]
    have e3 : decide ((m : Int) + (m : Int) < 0) = false := decide_eq_false (by omega)
    have e4 : ((m : Int) + (m : Int)).natAbs = 2 * m := by omega
    rw [e3, e4]
  · simp only [if_true, Nat.pow_zero, Nat.mul_one]
    rw [if_neg (by omega)]
    have e3 : decide (-(m : Int) + -(m : Int) < 0) = true := decide_eq_true (by omega)
    have e4 : (-(m : Int) + -(m : Int)).natAbs = 2 * m := by omega
    rw [e3, e4]

theorem sg_word (s : Bool) (r : Nat) (h : r < 9223372036854775808) : sg (Ieee.double.word s r) = s ∧ rg (Ieee.double.word s r) = r ∧ Ieee.double.word s r < 18446744073709551616 := by
  rw [word_of]
  unfold sg rg
  cases s
  · simp only [if_false, Bool.false_eq_true]
    exact ⟨decide_eq_false (by omega), by omega, by omega⟩
  · simp only [if_true]
    exact ⟨decide_eq_true (by omega), by omega, by omega⟩

/-- A number twice: it isn't the number, but for the infinite ones. -/
theorem add_self (b : Nat) (hb : b < 18446744073709551616) (hn : nan b = false) (h0 : rg b ≠ 0) :
    ∃ c, Ieee.double.add b b = some c ∧ (FloatKind.f64.format.order c b == some Ordering.eq) = decide (rg b = 9218868437227405312) := by
  have hr := rg_le b
  have hn' := hn
  unfold nan at hn'
  rw [decide_eq_false_iff_not] at hn'
  have key1 : ∀ r, r < 9218868437227405313 → r ≠ rg b → (FloatKind.f64.format.order (Ieee.double.word (sg b) r) b == some Ordering.eq) = false := by
    intro r hr1 hr2
    obtain ⟨w1, w2, w3⟩ := sg_word (sg b) r (by omega)
    rw [f64, order_key _ b w3 hb (by unfold nan; rw [w2]; exact decide_eq_false (by omega)) hn, cmp_int]
    have hk : ¬ key (Ieee.double.word (sg b) r) = key b := by
      unfold key
      rw [w1, w2]
      cases sg b <;> simp <;> omega
    rw [if_neg hk]
    split <;> rfl
  by_cases hi : rg b = 9218868437227405312
  · refine ⟨b, ?_, ?_⟩
    · unfold Ieee.Format.add
      rw [read_inf b hb hi]
      simp only [Ieee.Datum.sum, if_true, Option.map_some, Ieee.Format.write]
      rw [c_inf, word_of]
      congr 1
      unfold sg rg at *
      by_cases h : 9223372036854775808 ≤ b
      · rw [decide_eq_true h, if_pos rfl]; omega
      · rw [decide_eq_false h, if_neg (by simp)]; omega
    · rw [decide_eq_true hi, f64, order_key b b hb hb hn hn, cmp_int, if_neg (by omega), if_pos rfl]
      rfl
  · rw [decide_eq_false hi]
    by_cases hs : rg b < 4503599627370496
    · refine ⟨Ieee.double.word (sg b) (2 * rg b), ?_, key1 _ (by omega) (by omega)⟩
      unfold Ieee.Format.add
      rw [read_eq b hb, if_pos hs, sum_self _ _ _ h0]
      simp only [Option.map_some, Ieee.Format.write]
      rw [near_small _ _ h0 hs]
    · refine ⟨Ieee.double.word (sg b) (min ((rg b / 4503599627370496 - 1 + 1) * 4503599627370496 + (4503599627370496 + rg b % 4503599627370496)) 9218868437227405312), ?_, key1 _ (by omega) (by omega)⟩
      unfold Ieee.Format.add
      rw [read_eq b hb, if_neg hs, if_pos (by omega), sum_self _ _ _ (by omega)]
      simp only [Option.map_some, Ieee.Format.write]
      rw [near_normal _ _ _ (by omega) (by omega)]
end Go.Proofs.YthpmhjlndnelfaaDoor.Real
