/- Plain laws on floats of 64 bits: what stands ahead of the point; the float nearest to a whole number. No conditions but the width. -/
import Derived.Test.YthpmhjlndnelfaaDoorOwnDiv
namespace Go.Proofs.YthpmhjlndnelfaaDoor.Real
open Ieee

abbrev BB : Nat := 4503599627370496
theorem BB_pos : 0 < BB := Nat.zero_lt_succ _
theorem BB_v : BB = 4503599627370496 := rfl
theorem BB_two : (2 : Nat) ^ 52 = BB := by simp
def ex : Nat := 1074
def U : Nat := 2 ^ ex
theorem U_pos : 0 < U := Nat.two_pow_pos _
theorem U_split (p : Nat) (h : p ≤ 1074) : U = 2 ^ p * 2 ^ (1074 - p) := by
  unfold U
  rw [← Nat.pow_add]
  congr 1
  unfold ex
  omega
theorem U_over (d : Nat) : 2 ^ (d + 1074) = 2 ^ d * U := by
  unfold U
  rw [← Nat.pow_add]
  rfl

def flo (b : Nat) : Nat := vl BB (rg b) / U

theorem cut_floor (s : Bool) (n drop : Nat) : Toward.zero.cut s n drop = n / 2 ^ drop := by
  have e : Toward.zero.cut s n drop = n / (1 <<< min drop (n.log2 + 2)) := by
    unfold Toward.cut
    simp
  rw [e, Nat.one_shiftLeft]
  by_cases h : drop ≤ n.log2 + 2
  · rw [Nat.min_eq_left h]
  · rw [Nat.min_eq_right (by omega)]
    have h1 : n < 2 ^ (n.log2 + 1) := by
      by_cases hn : n = 0
      · subst hn; exact Nat.two_pow_pos _
      · exact (Nat.log2_lt hn).1 (Nat.lt_succ_self _)
    have h2 : 2 ^ (n.log2 + 1) ≤ 2 ^ (n.log2 + 2) := Nat.pow_le_pow_right (by omega) (by omega)
    have h3 : 2 ^ (n.log2 + 1) ≤ 2 ^ drop := Nat.pow_le_pow_right (by omega) (by omega)
    rw [Nat.div_eq_of_lt (Nat.lt_of_lt_of_le h1 h2), Nat.div_eq_of_lt (Nat.lt_of_lt_of_le h1 h3)]

theorem toInt_eq (b : Nat) (hb : b < 18446744073709551616) (h : rg b < 9218868437227405312) (hs : sg b = false) : (double.read b).toInt .zero = some (flo b : Int) := by
  obtain ⟨m, p, e, em⟩ := read_num b hb h
  rw [e, hs, c_least]
  unfold Datum.toInt Datum.integral
  simp only
  rw [cut_floor, signed_eq]
  congr 1
  unfold sgn flo
  simp only [if_false, Bool.false_eq_true, Nat.pow_zero, Nat.mul_one]
  congr 1
  rw [← em, Nat.shiftLeft_eq]
  by_cases hp : p ≤ 1074
  · rw [show ((-1074 : Int) + (p : Int)).toNat = 0 by omega, show (-((-1074 : Int) + (p : Int))).toNat = 1074 - p by omega, Nat.pow_zero, Nat.mul_one, U_split p hp, Nat.mul_comm m, Nat.mul_div_mul_left _ _ (Nat.two_pow_pos p)]
  · rw [show ((-1074 : Int) + (p : Int)).toNat = p - 1074 by omega, show (-((-1074 : Int) + (p : Int))).toNat = 0 by omega, Nat.pow_zero, Nat.div_one]
    have : 2 ^ p = 2 ^ (p - 1074) * U := by rw [← U_over]; congr 1; omega
    rw [this, ← Nat.mul_assoc, Nat.mul_div_cancel _ U_pos]

theorem vl_form (e f : Nat) (h1 : BB ≤ f) (h2 : f < 2 * BB) : vl BB (e * BB + f) = f * 2 ^ e := by
  unfold vl
  have hB : 0 < BB := BB_pos
  rw [if_neg (by omega)]
  obtain ⟨g, rfl⟩ : ∃ g, f = BB + g := ⟨f - BB, by omega⟩
  have hg : g < BB := by omega
  have e1 : (e * BB + (BB + g)) / BB = e + 1 := by
    rw [show e * BB + (BB + g) = BB * (e + 1) + g by rw [Nat.mul_add, Nat.mul_comm]; omega, Nat.mul_add_div hB, Nat.div_eq_of_lt hg, Nat.add_zero]
  have e2 : (e * BB + (BB + g)) % BB = g := by
    rw [show e * BB + (BB + g) = BB * (e + 1) + g by rw [Nat.mul_add, Nat.mul_comm]; omega, Nat.mul_add_mod, Nat.mod_eq_of_lt hg]
  rw [e1, e2, Nat.add_sub_cancel]

theorem vl_le (r s : Nat) : vl BB r ≤ vl BB s ↔ r ≤ s := by
  have := vl_lt BB s r BB_pos
  omega

/-- A whole number below 2^53 is a float. -/
theorem nr_small (x : Nat) (h0 : x ≠ 0) (h : x < 9007199254740992) : nr x 0 < 9218868437227405312 ∧ vl BB (nr x 0) = x * U := by
  have hlt : x.log2 < 53 := (Nat.log2_lt h0).2 (by omega)
  have hle : 2 ^ x.log2 ≤ x := (Nat.le_log2 h0).1 (Nat.le_refl _)
  have hgt : x < 2 ^ (x.log2 + 1) := (Nat.log2_lt h0).1 (Nat.lt_succ_self _)
  have hnr : nr x 0 = min ((1074 - (52 - x.log2)) * BB + x * 2 ^ (52 - x.log2)) 9218868437227405312 := by
    unfold nr
    rw [if_neg h0, c_frac, c_least, c_bi, c_inf]
    have e1 : max ((0 : Int) + (x.log2 : Int) - ((52 : Nat) : Int)) (-1074) = (x.log2 : Int) - 52 := by omega
    simp only [e1]
    have e2 : ((0 : Int) - ((x.log2 : Int) - 52)).toNat = 52 - x.log2 := by omega
    have e3 : ((x.log2 : Int) - 52 - 0).toNat = 0 := by omega
    have e4 : ((x.log2 : Int) - 52 - -1074).toNat = 1074 - (52 - x.log2) := by omega
    rw [e2, e3, e4, Nat.shiftLeft_eq, cut_zero]
  generalize x.log2 = l at *
  have e0 : l + (52 - l) = 52 := by omega
  have hk : 2 ^ l * 2 ^ (52 - l) = BB := (Nat.pow_add 2 l (52 - l)).symm.trans ((congrArg (fun k => 2 ^ k) e0).trans BB_two)
  have hp := Nat.two_pow_pos (52 - l)
  have f1 : BB ≤ x * 2 ^ (52 - l) := by rw [← hk]; exact Nat.mul_le_mul_right _ hle
  have f2 : x * 2 ^ (52 - l) < 2 * BB := by
    have := Nat.mul_lt_mul_of_pos_right hgt hp
    rw [Nat.pow_succ, Nat.mul_comm (2 ^ l) 2, Nat.mul_assoc, hk] at this
    exact this
  have e5 : (1074 - (52 - l)) * BB ≤ 1074 * BB := Nat.mul_le_mul_right _ (by omega)
  have e6 : (1074 - (52 - l)) * BB + x * 2 ^ (52 - l) < 9218868437227405312 := Nat.lt_of_lt_of_le (Nat.add_lt_add_of_le_of_lt e5 f2) (show 1074 * BB + 2 * BB ≤ 9218868437227405312 by decide)
  have hr : nr x 0 = (1074 - (52 - l)) * BB + x * 2 ^ (52 - l) := by rw [hnr]; exact Nat.min_eq_left (Nat.le_of_lt e6)
  rw [hr]
  refine ⟨e6, ?_⟩
  rw [vl_form _ _ f1 f2, Nat.mul_assoc, U_split (52 - l) (by omega)]

theorem even_cut (n d : Nat) (hd : d ≤ n.log2 + 2) : Toward.even.cut false n d = n / 2 ^ d ∨ (Toward.even.cut false n d = n / 2 ^ d + 1 ∧ n % 2 ^ d ≠ 0) := by
  unfold Toward.cut
  simp only [Nat.one_shiftLeft, Nat.min_eq_left hd]
  by_cases hz : n % 2 ^ d = 0
  · left
    rw [hz]
    simp
  · by_cases hb : (decide (2 ^ d < 2 * (n % 2 ^ d)) || 2 ^ d == 2 * (n % 2 ^ d) && n / 2 ^ d % 2 == 1) = true
    · right
      rw [hb]
      exact ⟨rfl, hz⟩
    · left
      rw [Bool.not_eq_true] at hb
      rw [hb]
      rfl

/-- To round goes past no float. -/
theorem nr_le_of (x r : Nat) (hx : x < 18446744073709551616) (h : x * U ≤ vl BB r) : nr x 0 ≤ r := by
  by_cases h0 : x = 0
  · subst h0
    unfold nr
    simp
  by_cases h1 : x < 9007199254740992
  · have := (nr_small x h0 h1).2
    exact (vl_le _ _).1 (by rw [this]; exact h)
  have hl1 : 53 ≤ x.log2 := (Nat.le_log2 h0).2 (by omega)
  have hl2 : x.log2 < 64 := (Nat.log2_lt h0).2 (by omega)
  have hle : 2 ^ x.log2 ≤ x := (Nat.le_log2 h0).1 (Nat.le_refl _)
  have hgt : x < 2 ^ (x.log2 + 1) := (Nat.log2_lt h0).1 (Nat.lt_succ_self _)
  have hc := even_cut x (x.log2 - 52) (by omega)
  have hnr : nr x 0 ≤ (x.log2 - 52 + 1074) * BB + Toward.even.cut false x (x.log2 - 52) := by
    unfold nr
    rw [if_neg h0, c_frac, c_least, c_bi, c_inf]
    have e1 : max ((0 : Int) + (x.log2 : Int) - ((52 : Nat) : Int)) (-1074) = (x.log2 : Int) - 52 := by omega
    simp only [e1]
    have e2 : ((0 : Int) - ((x.log2 : Int) - 52)).toNat = 0 := by omega
    have e3 : ((x.log2 : Int) - 52 - 0).toNat = x.log2 - 52 := by omega
    have e4 : ((x.log2 : Int) - 52 - -1074).toNat = x.log2 - 52 + 1074 := by omega
    rw [e2, e3, e4, Nat.shiftLeft_zero]
    exact Nat.min_le_left _ _
  generalize x.log2 = l at *
  obtain ⟨d, rfl⟩ : ∃ d, l = d + 52 := ⟨l - 52, by omega⟩
  rw [Nat.add_sub_cancel] at hc hnr
  have hp := Nat.two_pow_pos d
  have hk : 2 ^ (d + 52) = BB * 2 ^ d := (Nat.pow_add 2 d 52).trans ((congrArg (fun k => 2 ^ d * k) BB_two).trans (Nat.mul_comm _ _))
  have f1 : BB ≤ x / 2 ^ d := (Nat.le_div_iff_mul_le hp).2 (by rw [← hk]; exact hle)
  have f2 : x / 2 ^ d < 2 * BB := by
    apply Nat.div_lt_of_lt_mul
    rw [Nat.pow_succ, hk, Nat.mul_comm BB] at hgt
    rw [Nat.mul_comm 2 BB, ← Nat.mul_assoc]
    exact hgt
  have hv : vl BB ((d + 1074) * BB + x / 2 ^ d) = x / 2 ^ d * 2 ^ d * U := by
    rw [vl_form _ _ f1 f2, U_over, Nat.mul_assoc]
  have hdm := Nat.div_add_mod x (2 ^ d)
  rw [Nat.mul_comm] at hdm
  rcases hc with hc | ⟨hc, hne⟩
  · rw [hc] at hnr
    refine Nat.le_trans hnr ((vl_le _ _).1 ?_)
    rw [hv]
    exact Nat.le_trans (Nat.mul_le_mul_right _ (by omega)) h
  · rw [hc] at hnr
    have : (d + 1074) * BB + x / 2 ^ d < r := by
      refine (vl_lt BB _ _ BB_pos).1 ?_
      rw [hv]
      exact Nat.lt_of_lt_of_le (Nat.mul_lt_mul_of_pos_right (by omega) U_pos) h
    omega

def wh (b most : Nat) : Nat := if nan b || decide (key b < 4607182418800017408) then 0 else if 4895412794951729152 ≤ key b then most else min (flo b) most

theorem flo_top (r : Nat) (h : r < 4895412794951729152) : vl BB r / U < 18446744073709551616 := by
  obtain ⟨d, hd⟩ : ∃ d : Nat, d = 12 := ⟨12, rfl⟩
  have e1 : (d + 1074) * BB + BB = 4895412794951729152 := by subst hd; decide
  have h1 := (vl_lt BB r ((d + 1074) * BB + BB) BB_pos).2 (by rw [e1]; exact h)
  rw [vl_form (d + 1074) BB (Nat.le_refl _) (show BB < 2 * BB by decide), U_over, ← Nat.mul_assoc] at h1
  have e2 : BB * 2 ^ d = 18446744073709551616 := by subst hd; decide
  rw [e2] at h1
  apply Nat.div_lt_of_lt_mul
  rw [Nat.mul_comm U]
  exact h1

theorem wh_le (b most : Nat) : wh b most ≤ most := by
  unfold wh
  split
  · exact Nat.zero_le _
  · split
    · exact Nat.le_refl _
    · exact Nat.min_le_right _ _

theorem pos_key (b : Nat) (h : 4607182418800017408 ≤ key b) : sg b = false ∧ key b = (rg b : Int) := by
  unfold key at *
  cases hs : sg b
  · exact ⟨rfl, rfl⟩
  · rw [hs] at h
    simp only [if_true] at h
    omega

theorem wh_mono (a b most : Nat) (h : cp a b ≤ 0) : wh a most ≤ wh b most := by
  have h1 : tk a ≤ tk b := by
    unfold cp ci at h
    split at h
    · omega
    · split at h <;> omega
  by_cases hz : nan a || decide (key a < 4607182418800017408)
  · unfold wh
    rw [if_pos hz]
    exact Nat.zero_le _
  · have hz' := hz
    simp only [Bool.or_eq_true, decide_eq_true_eq, not_or, Bool.not_eq_true] at hz'
    obtain ⟨ha, hka⟩ := hz'
    obtain ⟨sa, ka⟩ := pos_key a (by omega)
    have ta : tk a = (rg a : Int) := by unfold tk; rw [ha, sa]; rfl
    have hb : nan b = false := by
      cases e : nan b with
      | false => rfl
      | true => exfalso; unfold tk at h1 ta; rw [e, if_pos rfl] at h1; omega
    have sb : sg b = false := by
      cases e : sg b with
      | false => rfl
      | true => exfalso; have : tk b = -(rg b : Int) - 1 := by unfold tk; rw [hb, e]; rfl
                omega
    have tb : tk b = (rg b : Int) := by unfold tk; rw [hb, sb]; rfl
    have kb : key b = (rg b : Int) := by unfold key; rw [sb]; rfl
    have hzb : ¬ (nan b || decide (key b < 4607182418800017408)) = true := by
      rw [hb, decide_eq_false (by omega)]
      simp
    by_cases hb2 : 4895412794951729152 ≤ key b
    · have : wh b most = most := by unfold wh; rw [if_neg hzb, if_pos hb2]
      rw [this]
      exact wh_le a most
    · unfold wh
      rw [if_neg hz, if_neg hzb, if_neg (show ¬ 4895412794951729152 ≤ key a by omega), if_neg hb2]
      have hf : flo a ≤ flo b := Nat.div_le_div_right ((vl_le _ _).2 (by omega))
      omega
end Go.Proofs.YthpmhjlndnelfaaDoor.Real
