/- Plain laws on floats of 64 bits: which of two is ahead, by their bits. No conditions but the width. -/
import Derived.WalkKit
import Derived.Laws.Cover2
import Derived.Laws.FloatArith
namespace Go.Proofs.YthpmhjlndnelfaaDoor.Real

/-- The sign, the rung, and the place among all numbers. -/
def sg (b : Nat) : Bool := decide (9223372036854775808 ≤ b)
def rg (b : Nat) : Nat := b % 9223372036854775808
def nan (b : Nat) : Bool := decide (9218868437227405312 < rg b)
def key (b : Nat) : Int := if sg b then -(rg b : Int) else (rg b : Int)

/-- A rung's number, in units of the least. -/
def vl (B r : Nat) : Nat := if r < B then r else (B + r % B) * 2 ^ (r / B - 1)

theorem vl_succ (B r : Nat) (hB : 0 < B) : vl B r < vl B (r + 1) := by
  unfold vl
  by_cases h1 : r + 1 < B
  · rw [if_pos (by omega), if_pos h1]; omega
  · rw [if_neg h1]
    by_cases h2 : r < B
    · rw [if_pos h2]
      obtain rfl : r + 1 = B := by omega
      rw [Nat.mod_self, Nat.div_self hB]
      simp
    · rw [if_neg h2]
      have hq : 1 ≤ r / B := (Nat.le_div_iff_mul_le hB).2 (by omega)
      have hm := Nat.mod_lt r hB
      have hd := Nat.div_add_mod r B
      have hp : 0 < 2 ^ (r / B - 1) := Nat.two_pow_pos _
      by_cases h3 : r % B + 1 < B
      · have e1 : (r + 1) / B = r / B := by
          rw [Nat.div_eq_iff hB]
          constructor
          · rw [Nat.mul_comm]; omega
          · have : (r / B) * B + B - 1 = B * (r / B) + B - 1 := by rw [Nat.mul_comm]
            omega
        have e2 : (r + 1) % B = r % B + 1 := by
          have := Nat.div_add_mod (r + 1) B
          rw [e1] at this
          omega
        rw [e1, e2]
        exact Nat.mul_lt_mul_of_pos_right (by omega) hp
      · have e1 : (r + 1) / B = r / B + 1 := by
          have : r + 1 = B * (r / B + 1) := by rw [Nat.mul_add]; omega
          rw [this, Nat.mul_div_cancel_left _ hB]
        have e2 : (r + 1) % B = 0 := by
          have : r + 1 = B * (r / B + 1) := by rw [Nat.mul_add]; omega
          rw [this, Nat.mul_mod_right]
        rw [e1, e2, show r / B + 1 - 1 = (r / B - 1) + 1 by omega, Nat.pow_succ]
        have : (B + r % B) * 2 ^ (r / B - 1) < (2 * B) * 2 ^ (r / B - 1) := Nat.mul_lt_mul_of_pos_right (by omega) hp
        have e3 : (B + 0) * (2 ^ (r / B - 1) * 2) = (2 * B) * 2 ^ (r / B - 1) := by
          rw [Nat.add_zero, Nat.mul_comm (2 ^ _) 2, ← Nat.mul_assoc, Nat.mul_comm B 2]
        omega

theorem vl_mono (B : Nat) (hB : 0 < B) (d : Nat) : ∀ r, vl B r < vl B (r + d + 1) := by
  induction d with
  | zero => intro r; exact vl_succ B r hB
  | succ d ih => intro r; exact Nat.lt_trans (ih r) (vl_succ B (r + d + 1) hB)

theorem vl_lt (B r s : Nat) (hB : 0 < B) : vl B r < vl B s ↔ r < s := by
  constructor
  · intro h
    rcases Nat.lt_trichotomy r s with h1 | h1 | h1
    · exact h1
    · subst h1; omega
    · obtain ⟨d, rfl⟩ : ∃ d, r = s + d + 1 := ⟨r - s - 1, by omega⟩
      have := vl_mono B hB d s
      omega
  · intro h
    obtain ⟨d, rfl⟩ : ∃ d, s = r + d + 1 := ⟨s - r - 1, by omega⟩
    exact vl_mono B hB d r

theorem cmp_int (a b : Int) : compare a b = if a < b then .lt else if a = b then .eq else .gt := rfl

theorem cmp_scale (a b : Int) (k : Int) (hk : 0 < k) : compare (a * k) (b * k) = compare a b := by
  rw [cmp_int, cmp_int]
  have h1 : a * k < b * k ↔ a < b := Int.mul_lt_mul_right hk
  have h2 : a * k = b * k ↔ a = b := ⟨fun h => Int.eq_of_mul_eq_mul_right (by omega) h, fun h => by rw [h]⟩
  simp only [h1, h2]

def sgn (s : Bool) (n : Nat) : Int := if s then -(n : Int) else (n : Int)

theorem sgn_mul (s : Bool) (n k : Nat) : sgn s (n * k) = sgn s n * k := by
  unfold sgn
  cases s <;> simp [Int.neg_mul]

theorem signed_eq (s : Bool) (n k : Nat) : Ieee.signed s n k = sgn s (n * 2 ^ k) := by
  unfold Ieee.signed sgn
  rw [Nat.shiftLeft_eq]

/-- Two numbers of one unit stand as they do whatever the unit. -/
theorem cmp_num (s t : Bool) (m n p q : Nat) (L : Int) :
    (Ieee.Datum.number s m (L + p)).order (Ieee.Datum.number t n (L + q)) = some (compare (sgn s (m * 2 ^ p)) (sgn t (n * 2 ^ q))) := by
  simp only [Ieee.Datum.order]
  have e1 : (L + (p : Int) - min (L + (p : Int)) (L + (q : Int))).toNat = p - min p q := by omega
  have e2 : (L + (q : Int) - min (L + (p : Int)) (L + (q : Int))).toNat = q - min p q := by omega
  rw [e1, e2, signed_eq, signed_eq]
  congr 1
  have k : (0 : Int) < ((2 ^ (min p q) : Nat) : Int) := by exact_mod_cast Nat.two_pow_pos _
  rw [← cmp_scale _ _ _ k, ← sgn_mul, ← sgn_mul, Nat.mul_assoc, Nat.mul_assoc, ← Nat.pow_add, ← Nat.pow_add, show p - min p q + min p q = p by omega, show q - min p q + min p q = q by omega]

theorem sgn_cmp (B : Nat) (hB : 0 < B) (s t : Bool) (r u : Nat) : compare (sgn s (vl B r)) (sgn t (vl B u)) = compare (sgn s r) (sgn t u) := by
  have h1 := vl_lt B r u hB
  have h2 := vl_lt B u r hB
  have z : vl B 0 = 0 := by unfold vl; rw [if_pos hB]
  have h3 := vl_lt B 0 r hB
  have h4 := vl_lt B 0 u hB
  rw [z] at h3 h4
  rw [cmp_int, cmp_int]
  unfold sgn
  generalize vl B r = x at *
  generalize vl B u = y at *
  cases s <;> cases t <;> simp only [if_true, if_false, Bool.false_eq_true] <;> (split <;> split <;> (try split) <;> (try split) <;> first | rfl | (exfalso; omega))
end Go.Proofs.YthpmhjlndnelfaaDoor.Real
