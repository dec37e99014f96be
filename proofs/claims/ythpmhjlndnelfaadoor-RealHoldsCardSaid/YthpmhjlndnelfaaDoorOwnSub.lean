/- Plain laws on floats of 64 bits: a power of two, taken from a number of its own binade. No conditions but the width. -/
import Derived.Test.YthpmhjlndnelfaaDoorOwnSum
namespace Go.Proofs.YthpmhjlndnelfaaDoor.Real
open Ieee

theorem pow_join (a b c : Nat) (h : a + b = c) : 2 ^ a * 2 ^ b = 2 ^ c := by rw [← Nat.pow_add, h]

theorem nr_fit (m p : Nat) (h0 : m ≠ 0) (h : m < 2 * BB) (hp : p ≤ 1100) : nr m (-1074 + (p : Int)) < 9218868437227405312 ∧ vl BB (nr m (-1074 + (p : Int))) = m * 2 ^ p := by
  have hlt : m.log2 < 53 := (Nat.log2_lt h0).2 (Nat.lt_of_lt_of_le h (by decide))
  have hle : 2 ^ m.log2 ≤ m := (Nat.le_log2 h0).1 (Nat.le_refl _)
  have hgt : m < 2 ^ (m.log2 + 1) := (Nat.log2_lt h0).1 (Nat.lt_succ_self _)
  by_cases hc : 52 ≤ p + m.log2
  · have hnr : nr m (-1074 + (p : Int)) = min ((p + m.log2 - 52) * BB + m * 2 ^ (52 - m.log2)) 9218868437227405312 := by
      unfold nr
      rw [if_neg h0, c_frac, c_least, c_bi, c_inf]
      have e1 : max (-1074 + (p : Int) + (m.log2 : Int) - ((52 : Nat) : Int)) (-1074) = -1074 + (p : Int) + (m.log2 : Int) - 52 := by omega
      simp only [e1]
      have e2 : (-1074 + (p : Int) - (-1074 + (p : Int) + (m.log2 : Int) - 52)).toNat = 52 - m.log2 := by omega
      have e3 : (-1074 + (p : Int) + (m.log2 : Int) - 52 - (-1074 + (p : Int))).toNat = 0 := by omega
      have e4 : (-1074 + (p : Int) + (m.log2 : Int) - 52 - -1074).toNat = p + m.log2 - 52 := by omega
      rw [e2, e3, e4, Nat.shiftLeft_eq, cut_zero]
    generalize m.log2 = l at *
    have hk : 2 ^ l * 2 ^ (52 - l) = BB := (pow_join l (52 - l) 52 (by omega)).trans BB_two
    have hpz := Nat.two_pow_pos (52 - l)
    have f1 : BB ≤ m * 2 ^ (52 - l) := by rw [← hk]; exact Nat.mul_le_mul_right _ hle
    have f2 : m * 2 ^ (52 - l) < 2 * BB := by
      have := Nat.mul_lt_mul_of_pos_right hgt hpz
      rw [Nat.pow_succ, Nat.mul_comm (2 ^ l) 2, Nat.mul_assoc, hk] at this
      exact this
    have e5 : (p + l - 52) * BB ≤ 1101 * BB := Nat.mul_le_mul_right _ (by omega)
    have e6 : (p + l - 52) * BB + m * 2 ^ (52 - l) < 9218868437227405312 := Nat.lt_of_lt_of_le (Nat.add_lt_add_of_le_of_lt e5 f2) (show 1101 * BB + 2 * BB ≤ 9218868437227405312 by decide)
    have hr : nr m (-1074 + (p : Int)) = (p + l - 52) * BB + m * 2 ^ (52 - l) := by rw [hnr]; exact Nat.min_eq_left (Nat.le_of_lt e6)
    rw [hr]
    refine ⟨e6, ?_⟩
    rw [vl_form _ _ f1 f2, Nat.mul_assoc, pow_join (52 - l) (p + l - 52) p (by omega)]
  · have hnr : nr m (-1074 + (p : Int)) = min (m * 2 ^ p) 9218868437227405312 := by
      unfold nr
      rw [if_neg h0, c_frac, c_least, c_bi, c_inf]
      have e1 : max (-1074 + (p : Int) + (m.log2 : Int) - ((52 : Nat) : Int)) (-1074) = -1074 := by omega
      simp only [e1]
      have e2 : (-1074 + (p : Int) - -1074).toNat = p := by omega
      have e3 : ((-1074 : Int) - (-1074 + (p : Int))).toNat = 0 := by omega
      have e4 : ((-1074 : Int) - -1074).toNat = 0 := by omega
      rw [e2, e3, e4, Nat.shiftLeft_eq, cut_zero, Nat.zero_mul, Nat.zero_add]
    have hb : m * 2 ^ p < BB := by
      have h1 := Nat.mul_lt_mul_of_pos_right hgt (Nat.two_pow_pos p)
      rw [← Nat.pow_add] at h1
      exact Nat.lt_of_lt_of_le h1 (by rw [← BB_two]; exact Nat.pow_le_pow_right (by omega) (by omega))
    have hr : nr m (-1074 + (p : Int)) = m * 2 ^ p := by rw [hnr]; exact Nat.min_eq_left (Nat.le_of_lt (Nat.lt_of_lt_of_le hb (by decide)))
    rw [hr]
    refine ⟨Nat.lt_of_lt_of_le hb (by decide), ?_⟩
    unfold vl
    rw [if_pos hb]

theorem unit_nr (i : Nat) (h : i ≤ 64) : nr (2 ^ i) 0 = (1022 + i) * BB + BB := by
  have h0 : 2 ^ i ≠ 0 := Nat.ne_of_gt (Nat.two_pow_pos i)
  have hlog : (2 ^ i).log2 = i := Nat.log2_two_pow
  have key : ∀ kept, kept = BB → min ((1022 + i) * double.binade + kept) double.infRung = (1022 + i) * BB + BB := by
    intro kept hk
    rw [hk, c_bi, c_inf]
    apply Nat.min_eq_left
    rw [BB_v]
    omega
  unfold nr
  rw [if_neg h0, c_frac, c_least, hlog]
  have e1 : max ((0 : Int) + (i : Int) - ((52 : Nat) : Int)) (-1074) = (i : Int) - 52 := by omega
  simp only [e1]
  have e4 : ((i : Int) - 52 - -1074).toNat = 1022 + i := by omega
  rw [e4]
  by_cases hi : i ≤ 52
  · have e2 : ((0 : Int) - ((i : Int) - 52)).toNat = 52 - i := by omega
    have e3 : ((i : Int) - 52 - 0).toNat = 0 := by omega
    rw [e2, e3, Nat.shiftLeft_eq, cut_zero]
    exact key _ ((pow_join i (52 - i) 52 (by omega)).trans BB_two)
  · have e2 : ((0 : Int) - ((i : Int) - 52)).toNat = 0 := by omega
    have e3 : ((i : Int) - 52 - 0).toNat = i - 52 := by omega
    rw [e2, e3, Nat.shiftLeft_zero]
    have hs : 2 ^ i = 2 ^ (i - 52) * BB := by rw [← BB_two]; exact (pow_join (i - 52) 52 i (by omega)).symm
    rcases even_cut (2 ^ i) (i - 52) (by rw [hlog]; omega) with hc | ⟨_, hne⟩
    · rw [hc]
      exact key _ (by rw [hs, Nat.mul_div_cancel_left _ (Nat.two_pow_pos _)])
    · exfalso
      apply hne
      rw [hs, Nat.mul_mod_right]

theorem word_plain (r : Nat) : double.word false r = r := rfl
theorem nr_null (q : Int) : nr 0 q = 0 := if_pos rfl

theorem rd_unit (i k : Nat) (hi : i ≤ 63) (hk : k < BB) : double.read ((1022 + i) * BB + (BB + k)) = .number false (BB + k) (-1074 + ((1022 + i : Nat) : Int)) := by
  have hr : rg ((1022 + i) * BB + (BB + k)) = (1022 + i) * BB + (BB + k) := Nat.mod_eq_of_lt (by rw [BB_v] at *; omega)
  have hs : sg ((1022 + i) * BB + (BB + k)) = false := decide_eq_false (by rw [BB_v] at *; omega)
  rw [read_eq _ (by rw [BB_v] at *; omega), hr, hs, if_neg (by rw [BB_v] at *; omega), if_pos (by rw [BB_v] at *; omega), c_least]
  have e1 : ((1022 + i) * BB + (BB + k)) % 4503599627370496 = k := by rw [BB_v] at *; omega
  have e2 : ((1022 + i) * BB + (BB + k)) / 4503599627370496 - 1 = 1022 + i := by rw [BB_v] at *; omega
  rw [e1, e2]

theorem read_two : double.read 4611686018427387904 = .number false 4503599627370496 (-51) := by decide +kernel
theorem log_sq : (4503599627370496 * 4503599627370496).log2 = 104 := by decide +kernel
theorem cut_sq : Toward.even.cut false (4503599627370496 * 4503599627370496) 52 = 4503599627370496 := by decide +kernel
theorem twice (i : Nat) (h : i ≤ 63) : double.mul 4611686018427387904 (nr (2 ^ i) 0) = some (nr (2 ^ (i + 1)) 0) := by
  have r2 := rd_unit i 0 h BB_pos
  rw [Nat.add_zero] at r2
  rw [unit_nr i (by omega), unit_nr (i + 1) (by omega)]
  unfold Format.mul
  rw [read_two, r2]
  simp only [Datum.product, Option.map_some, Format.write]
  rw [nearest_nr]
  rw [Bool.xor_self, word_plain]
  refine congrArg some ?_
  unfold nr
  rw [if_neg (by decide), BB_v, log_sq, c_frac, c_least, c_bi, c_inf]
  have e1 : max (-51 + (-1074 + ((1022 + i : Nat) : Int)) + ((104 : Nat) : Int) - ((52 : Nat) : Int)) (-1074) = (i : Int) - 51 := by omega
  simp only [e1]
  have e2 : (-51 + (-1074 + ((1022 + i : Nat) : Int)) - ((i : Int) - 51)).toNat = 0 := by omega
  have e3 : ((i : Int) - 51 - (-51 + (-1074 + ((1022 + i : Nat) : Int)))).toNat = 52 := by omega
  have e4 : ((i : Int) - 51 - -1074).toNat = 1023 + i := by omega
  rw [e2, e3, e4, Nat.shiftLeft_zero, cut_sq]
  omega

theorem unit_vl (i : Nat) (h : i ≤ 64) : vl BB (nr (2 ^ i) 0) = 2 ^ i * U := by
  rw [unit_nr i h, vl_form _ _ (Nat.le_refl _) (by decide), ← U_over, ← BB_two]
  exact pow_join 52 (1022 + i) (i + 1074) (by omega)

/-- A power of two, taken from a number of its binade. -/
theorem sub_unit (b i : Nat) (hi : i ≤ 63) (h1 : nr (2 ^ i) 0 ≤ b) (h2 : b < nr (2 ^ (i + 1)) 0) :
    ∃ c, double.sub b (nr (2 ^ i) 0) = some c ∧ c < 9218868437227405312 ∧ vl BB c + 2 ^ i * U = vl BB b := by
  rw [unit_nr (i + 1) (by omega)] at h2
  rw [unit_nr i (by omega)] at h1 ⊢
  obtain ⟨g, rfl⟩ : ∃ g, b = (1022 + i) * BB + (BB + g) := ⟨b - ((1022 + i) * BB + BB), by omega⟩
  have hg : g < BB := by
    have : (1022 + (i + 1)) * BB = (1022 + i) * BB + BB := by rw [← Nat.add_assoc, Nat.add_mul, Nat.one_mul]
    omega
  have hbig : (1022 + i) * BB + (BB + g) < 9218868437227405312 := by rw [BB_v] at *; omega
  have r1 := rd_unit i g hi hg
  have r2 := rd_unit i 0 hi BB_pos
  rw [Nat.add_zero] at r2
  unfold Format.sub
  rw [r1, r2]
  simp only [Datum.opposite, Datum.sum, Option.map_some, Bool.not_false]
  have e0 : min (-1074 + ((1022 + i : Nat) : Int)) (-1074 + ((1022 + i : Nat) : Int)) = -1074 + ((1022 + i : Nat) : Int) := by omega
  rw [e0]
  have e3 : (-1074 + ((1022 + i : Nat) : Int) - (-1074 + ((1022 + i : Nat) : Int))).toNat = 0 := by omega
  rw [e3, signed_eq, signed_eq, Nat.pow_zero, Nat.mul_one, Nat.mul_one]
  have e4 : sgn false (BB + g) + sgn true BB = (g : Int) := by
    unfold sgn
    simp only [if_true, if_false, Bool.false_eq_true]
    omega
  rw [e4]
  have e5 : (if (g : Int) = 0 then false && true else decide ((g : Int) < 0)) = false := by
    split
    · rfl
    · exact decide_eq_false (by omega)
  rw [e5]
  simp only [Format.write, Int.natAbs_natCast]
  rw [nearest_nr]
  refine ⟨_, rfl, ?_⟩
  rw [word_plain]
  have hv : vl BB ((1022 + i) * BB + (BB + g)) = g * 2 ^ (1022 + i) + 2 ^ i * U := by
    have hu := unit_vl i (by omega)
    rw [unit_nr i (by omega), vl_form _ _ (Nat.le_refl _) (by decide)] at hu
    rw [vl_form _ _ (Nat.le_add_right _ _) (by omega), Nat.add_mul, hu, Nat.add_comm]
  rw [hv]
  by_cases hz : g = 0
  · subst hz
    rw [nr_null]
    refine ⟨by omega, ?_⟩
    have : vl BB 0 = 0 := by unfold vl; rw [if_pos BB_pos]
    rw [this, Nat.zero_mul]
  · obtain ⟨a1, a2⟩ := nr_fit g (1022 + i) hz (by omega) (by omega)
    exact ⟨a1, by rw [a2]⟩
end Go.Proofs.YthpmhjlndnelfaaDoor.Real
