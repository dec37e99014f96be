/- Plain laws on floats of 64 bits: which of two is ahead, by their bits. No conditions but the width. Plain laws on floats of 64 bits: the order that the machine tells is that of their places. No conditions but the width. Kind: its contract, and those of what it calls. The condition: 64 bits. Kind and Cmp: their contracts; the order that Cmp tells is that of one number each. The condition: 64 bits. Plain laws on floats of 64 bits: a number twice. No conditions but the width. Plain laws on floats of 64 bits: quotients, and their signs. No conditions but the width. Plain laws on floats of 64 bits: what stands ahead of the point; the float nearest to a whole number. No conditions but the width. -/
import Derived.WalkKit
import Derived.Laws.Cover2
import Derived.Laws.FloatArith
import Derived.Test.YtjniglmijikojaaGreatDoorGMyScale
namespace Go.Proofs.YtjniglmijikojaaGreatDoor.Real

/-- The sign, the rung, and the place among all numbers. -/
def sg (b : Nat) : Bool := decide (9223372036854775808 ≤ b)
def rg (b : Nat) : Nat := b % 9223372036854775808
def nan (b : Nat) : Bool := decide (9218868437227405312 < rg b)
def key (b : Nat) : Int := if sg b then -(rg b : Int) else (rg b : Int)

/-- A rung's number, in units of the least. -/
def vl (B r : Nat) : Nat := if r < B then r else (B + r % B) * 2 ^ (r / B - 1)

theorem vl_succ (B r : Nat) (hB : 0 < B) : vl B r < vl B (r + 1) := by
  unfold vl
  by_cases h1 : r + 1 < B
  · rw [if_pos (by omega), if_pos h1]; omega
  · rw [if_neg h1]
    by_cases h2 : r < B
    · rw [if_pos h2]
      obtain rfl : r + 1 = B := by omega
      rw [Nat.mod_self, Nat.div_self hB]
      simp
    · rw [if_neg h2]
      have hq : 1 ≤ r / B := (Nat.le_div_iff_mul_le hB).2 (by omega)
      have hm := Nat.mod_lt r hB
      have hd := Nat.div_add_mod r B
      have hp : 0 < 2 ^ (r / B - 1) := Nat.two_pow_pos _
      by_cases h3 : r % B + 1 < B
      · have e1 : (r + 1) / B = r / B := by
          rw [Nat.div_eq_iff hB]
          constructor
          · rw [Nat.mul_comm]; omega
          · have : (r / B) * B + B - 1 = B * (r / B) + B - 1 := by rw [Nat.mul_comm]
            omega
        have e2 : (r + 1) % B = r % B + 1 := by
          have := Nat.div_add_mod (r + 1) B
          rw [e1] at this
          omega
        rw [e1, e2]
        exact Nat.mul_lt_mul_of_pos_right (by omega) hp
      · have e1 : (r + 1) / B = r / B + 1 := by
          have : r + 1 = B * (r / B + 1) := by rw [Nat.mul_add]; omega
          rw [this, Nat.mul_div_cancel_left _ hB]
        have e2 : (r + 1) % B = 0 := by
          have : r + 1 = B * (r / B + 1) := by rw [Nat.mul_add]; omega
          rw [this, Nat.mul_mod_right]
        rw [e1, e2, show r / B + 1 - 1 = (r / B - 1) + 1 by omega, Nat.pow_succ]
        have : (B + r % B) * 2 ^ (r / B - 1) < (2 * B) * 2 ^ (r / B - 1) := Nat.mul_lt_mul_of_pos_right (by omega) hp
        have e3 : (B + 0) * (2 ^ (r / B - 1) * 2) = (2 * B) * 2 ^ (r / B - 1) := by
          rw [Nat.add_zero, Nat.mul_comm (2 ^ _) 2, ← Nat.mul_assoc, Nat.mul_comm B 2]
        omega

theorem vl_mono (B : Nat) (hB : 0 < B) (d : Nat) : ∀ r, vl B r < vl B (r + d + 1) := by
  induction d with
  | zero => intro r; exact vl_succ B r hB
  | succ d ih => intro r; exact Nat.lt_trans (ih r) (vl_succ B (r + d + 1) hB)

theorem vl_lt (B r s : Nat) (hB : 0 < B) : vl B r < vl B s ↔ r < s := by
  constructor
  · intro h
    rcases Nat.lt_trichotomy r s with h1 | h1 | h1
    · exact h1
    · subst h1; omega
    · obtain ⟨d, rfl⟩ : ∃ d, r = s + d + 1 := ⟨r - s - 1, by omega⟩
      have := vl_mono B hB d s
      omega
  · intro h
    obtain ⟨d, rfl⟩ : ∃ d, s = r + d + 1 := ⟨s - r - 1, by omega⟩
    exact vl_mono B hB d r

theorem cmp_int (a b : Int) : compare a b = if a < b then .lt else if a = b then .eq else .gt := rfl

theorem cmp_scale (a b : Int) (k : Int) (hk : 0 < k) : compare (a * k) (b * k) = compare a b := by
  rw [cmp_int, cmp_int]
  have h1 : a * k < b * k ↔ a < b := Int.mul_lt_mul_right hk
  have h2 : a * k = b * k ↔ a = b := ⟨fun h => Int.eq_of_mul_eq_mul_right (by omega) h, fun h => by rw [h]⟩
  simp only [h1, h2]

def sgn (s : Bool) (n : Nat) : Int := if s then -(n : Int) else (n : Int)

theorem sgn_mul (s : Bool) (n k : Nat) : sgn s (n * k) = sgn s n * k := by
  unfold sgn
  cases s <;> simp [Int.neg_mul]

theorem signed_eq (s : Bool) (n k : Nat) : Ieee.signed s n k = sgn s (n * 2 ^ k) := by
  unfold Ieee.signed sgn
  rw [Nat.shiftLeft_eq]

/-- Two numbers of one unit stand as they do whatever the unit. -/
theorem cmp_num (s t : Bool) (m n p q : Nat) (L : Int) :
    (Ieee.Datum.number s m (L + p)).order (Ieee.Datum.number t n (L + q)) = some (compare (sgn s (m * 2 ^ p)) (sgn t (n * 2 ^ q))) := by
  simp only [Ieee.Datum.order]
  have e1 : (L + (p : Int) - min (L + (p : Int)) (L + (q : Int))).toNat = p - min p q := by omega
  have e2 : (L + (q : Int) - min (L + (p : Int)) (L + (q : Int))).toNat = q - min p q := by omega
  rw [e1, e2, signed_eq, signed_eq]
  congr 1
  have k : (0 : Int) < ((2 ^ (min p q) : Nat) : Int) := by exact_mod_cast Nat.two_pow_pos _
  rw [← cmp_scale _ _ _ k, ← sgn_mul, ← sgn_mul, Nat.mul_assoc, Nat.mul_assoc, ← Nat.pow_add, ← Nat.pow_add, show p - min p q + min p q = p by omega, show q - min p q + min p q = q by omega]

theorem sgn_cmp (B : Nat) (hB : 0 < B) (s t : Bool) (r u : Nat) : compare (sgn s (vl B r)) (sgn t (vl B u)) = compare (sgn s r) (sgn t u) := by
  have h1 := vl_lt B r u hB
  have h2 := vl_lt B u r hB
  have z : vl B 0 = 0 := by unfold vl; rw [if_pos hB]
  have h3 := vl_lt B 0 r hB
  have h4 := vl_lt B 0 u hB
  rw [z] at h3 h4
  rw [cmp_int, cmp_int]
  unfold sgn
  generalize vl B r = x at *
  generalize vl B u = y at *
  cases s <;> cases t <;> simp only [if_true, if_false, Bool.false_eq_true] <;> (split <;> split <;> (try split) <;> (try split) <;> first | rfl | (exfalso; omega))
end Go.Proofs.YtjniglmijikojaaGreatDoor.Real
namespace Go.Proofs.YtjniglmijikojaaGreatDoor.Real

theorem f64 : FloatKind.f64.format = Ieee.double := rfl
theorem c_sw : Ieee.double.signWeight = 9223372036854775808 := by decide
theorem c_bi : Ieee.double.binade = 4503599627370496 := by decide
theorem c_inf : Ieee.double.infRung = 9218868437227405312 := by decide

theorem read_eq (b : Nat) (hb : b < 18446744073709551616) : Ieee.double.read b =
    if rg b < 4503599627370496 then .number (sg b) (rg b) Ieee.double.leastPlace
    else if rg b < 9218868437227405312 then .number (sg b) (4503599627370496 + rg b % 4503599627370496) (Ieee.double.leastPlace + (rg b / 4503599627370496 - 1 : Nat))
    else if rg b = 9218868437227405312 then .infinity (sg b) else .nan (sg b) (rg b - 9218868437227405312) := by
  unfold Ieee.Format.read
  simp only [c_sw, c_bi, c_inf]
  have e : (b / 9223372036854775808 % 2 == 1) = sg b := by
    unfold sg
    rw [Bool.eq_iff_iff, beq_iff_eq, decide_eq_true_eq]
    omega
  rw [e]
  rfl

theorem read_num (b : Nat) (hb : b < 18446744073709551616) (h : rg b < 9218868437227405312) :
    ∃ m p : Nat, Ieee.double.read b = .number (sg b) m (Ieee.double.leastPlace + (p : Int)) ∧ m * 2 ^ p = vl 4503599627370496 (rg b) := by
  rw [read_eq b hb]
  unfold vl
  by_cases h1 : rg b < 4503599627370496
  · rw [if_pos h1, if_pos h1]
    exact ⟨rg b, 0, by simp, by simp⟩
  · rw [if_neg h1, if_neg h1, if_pos h]
    exact ⟨_, _, rfl, rfl⟩

theorem read_inf (b : Nat) (hb : b < 18446744073709551616) (h : rg b = 9218868437227405312) : Ieee.double.read b = .infinity (sg b) := by
  rw [read_eq b hb, if_neg (by omega), if_neg (by omega), if_pos h]

theorem read_nan (b : Nat) (hb : b < 18446744073709551616) (h : nan b = true) : ∃ t, Ieee.double.read b = .nan (sg b) t := by
  unfold nan at h
  rw [decide_eq_true_eq] at h
  rw [read_eq b hb, if_neg (by omega), if_neg (by omega), if_neg (by omega)]
  exact ⟨_, rfl⟩

theorem key_sgn (b : Nat) : key b = sgn (sg b) (rg b) := rfl

theorem order_nan_left (b c : Nat) (hb : b < 18446744073709551616) (h : nan b = true) : Ieee.double.order b c = none := by
  obtain ⟨t, e⟩ := read_nan b hb h
  unfold Ieee.Format.order
  rw [e]
  rfl

theorem order_nan_right (b c : Nat) (hc : c < 18446744073709551616) (h : nan c = true) : Ieee.double.order b c = none := by
  obtain ⟨t, e⟩ := read_nan c hc h
  unfold Ieee.Format.order
  rw [e]
  cases Ieee.double.read b <;> rfl

theorem order_key (b c : Nat) (hb : b < 18446744073709551616) (hc : c < 18446744073709551616) (h1 : nan b = false) (h2 : nan c = false) : Ieee.double.order b c = some (compare (key b) (key c)) := by
  unfold nan at h1 h2
  rw [decide_eq_false_iff_not] at h1 h2
  unfold Ieee.Format.order
  by_cases i1 : rg b = 9218868437227405312
  · rw [read_inf b hb i1]
    by_cases i2 : rg c = 9218868437227405312
    · rw [read_inf c hc i2]
      simp only [Ieee.Datum.order, key_sgn, i1, i2]
      cases sg b <;> cases sg c <;> rfl
    · obtain ⟨m, p, e, _⟩ := read_num c hc (by omega)
      rw [e]
      simp only [Ieee.Datum.order, key_sgn, i1, cmp_int]
      unfold sgn
      cases sg b <;> cases sg c <;> simp only [if_true, if_false, Bool.false_eq_true] <;> (refine congrArg some ?_; first | rfl | (split <;> (try split) <;> first | rfl | (exfalso; omega)))
  · obtain ⟨m, p, e, em⟩ := read_num b hb (by omega)
    rw [e]
    by_cases i2 : rg c = 9218868437227405312
    · rw [read_inf c hc i2]
      simp only [Ieee.Datum.order, key_sgn, i2, cmp_int]
      unfold sgn
      cases sg b <;> cases sg c <;> simp only [if_true, if_false, Bool.false_eq_true] <;> (refine congrArg some ?_; (split <;> (try split) <;> first | rfl | (exfalso; omega)))
    · obtain ⟨n, q, e2, en⟩ := read_num c hc (by omega)
      have hz : 0 < 4503599627370496 := Nat.zero_lt_succ _
      have hs := sgn_cmp 4503599627370496 hz (sg b) (sg c) (rg b) (rg c)
      rw [e2, cmp_num, em, en]
      exact congrArg some hs
end Go.Proofs.YtjniglmijikojaaGreatDoor.Real
namespace Go.Proofs.YtjniglmijikojaaGreatDoor.Real
open Go.RowKit Go.Lib Go.Proofs.YtjniglmijikojaaGreatDoor.Text

theorem f18 (n : Nat) (w : World) : (callFunc 18 #[.float .f64 n]).run Tryz.prog w = .ok (.value (.int .u64 n)) w := by kernel_rfl
theorem f17 (n : Int) (w : World) : (callFunc 17 #[.int .u64 n]).run Tryz.prog w = .ok (.value (.float .f64 n.toNat)) w := by kernel_rfl

def ng (b : Nat) : Nat := if sg b then b - 9223372036854775808 else b + 9223372036854775808

theorem xor_top (x : Nat) (h : x < 2 ^ 63) : x ^^^ 2 ^ 63 = x + 2 ^ 63 := by
  have e1 := Nat.two_pow_add_eq_or_of_lt h 1
  rw [Nat.mul_one] at e1
  rw [Nat.add_comm, e1]
  apply Nat.eq_of_testBit_eq
  intro j
  rw [Nat.testBit_xor, Nat.testBit_or]
  by_cases hj : j = 63
  · subst hj
    rw [Nat.testBit_lt_two_pow h]
    simp
  · rw [Nat.testBit_two_pow]
    simp [show ¬ 63 = j from fun e => hj e.symm]

theorem neg_eq (b : Nat) (hb : b < 18446744073709551616) : Op.negFloat .f64 b = ng b := by
  have e : Op.negFloat .f64 b = b ^^^ 2 ^ 63 := rfl
  rw [e]
  unfold ng sg
  by_cases h : 9223372036854775808 ≤ b
  · rw [decide_eq_true h, if_pos rfl]
    obtain ⟨x, rfl⟩ : ∃ x, b = x + 2 ^ 63 := ⟨b - 2 ^ 63, by omega⟩
    rw [← xor_top x (by omega), Nat.xor_assoc, Nat.xor_self, Nat.xor_zero, xor_top x (by omega)]
    omega
  · rw [decide_eq_false h, if_neg (by simp), xor_top b (by omega)]

theorem ng_lt (b : Nat) (hb : b < 18446744073709551616) : ng b < 18446744073709551616 := by
  unfold ng sg
  by_cases h : 9223372036854775808 ≤ b
  · rw [decide_eq_true h, if_pos rfl]; omega
  · rw [decide_eq_false h, if_neg (by simp)]; omega

theorem ng_facts (b : Nat) (hb : b < 18446744073709551616) : sg (ng b) = !sg b ∧ rg (ng b) = rg b ∧ nan (ng b) = nan b ∧ key (ng b) = - key b := by
  have h1 : rg (ng b) = rg b := by
    unfold ng sg rg
    by_cases h : 9223372036854775808 ≤ b
    · rw [decide_eq_true h, if_pos rfl]; omega
    · rw [decide_eq_false h, if_neg (by simp)]; omega
  have h2 : sg (ng b) = !sg b := by
    unfold ng
    by_cases h : 9223372036854775808 ≤ b
    · have e : sg b = true := decide_eq_true h
      rw [e, if_pos rfl]
      exact decide_eq_false (by omega)
    · have e : sg b = false := decide_eq_false h
      rw [e, if_neg (by simp)]
      exact decide_eq_true (by omega)
  refine ⟨h2, h1, by unfold nan; rw [h1], ?_⟩
  unfold key
  rw [h1, h2]
  cases sg b <;> simp

def lt0 (b : Nat) : Bool := !nan b && decide (key b < 0)
def eq0 (b : Nat) : Bool := decide (rg b = 0)
def pinf (b : Nat) : Bool := !sg b && decide (rg b = 9218868437227405312)
def ninf (b : Nat) : Bool := sg b && decide (rg b = 9218868437227405312)

def kd (b : Nat) : Int := if nan b then 0 else if ninf b then 1 else if lt0 b then 2 else if eq0 b && sg b then 3 else if eq0 b then 4 else if pinf b then 6 else 5

theorem nan_zero : nan 0 = false := by decide
theorem key_zero : key 0 = 0 := by decide
theorem nan_max : nan 9218868437227405311 = false := by decide
theorem key_max : key 9218868437227405311 = 9218868437227405311 := by decide

theorem t_nan (b : Nat) (hb : b < 18446744073709551616) : (FloatKind.f64.format.order b b != some Ordering.eq) = nan b := by
  rw [f64]
  cases h : nan b with
  | true => rw [order_nan_left b b hb h]; rfl
  | false => rw [order_key b b hb hb h h, cmp_int, if_neg (by omega), if_pos rfl]; rfl

theorem t_lt0 (b : Nat) (hb : b < 18446744073709551616) : (FloatKind.f64.format.order b 0 == some Ordering.lt) = lt0 b := by
  rw [f64]
  unfold lt0
  cases h : nan b with
  | true => rw [order_nan_left b 0 hb h]; rfl
  | false =>
    rw [order_key b 0 hb (by omega) h nan_zero, key_zero, cmp_int]
    by_cases h1 : key b < 0
    · rw [if_pos h1, decide_eq_true h1]; rfl
    · rw [if_neg h1, decide_eq_false h1]; split <;> rfl

theorem t_eq0 (b : Nat) (hb : b < 18446744073709551616) : (FloatKind.f64.format.order b 0 == some Ordering.eq) = eq0 b := by
  rw [f64]
  unfold eq0
  cases h : nan b with
  | true =>
    rw [order_nan_left b 0 hb h]
    unfold nan at h
    rw [decide_eq_true_eq] at h
    rw [decide_eq_false (by omega)]; rfl
  | false =>
    rw [order_key b 0 hb (by omega) h nan_zero, key_zero, cmp_int]
    have hk : key b = 0 ↔ rg b = 0 := by unfold key; split <;> omega
    by_cases h1 : rg b = 0
    · have h2 := hk.2 h1
      rw [if_neg (by omega), if_pos h2, decide_eq_true h1]; rfl
    · have h2 : ¬ key b = 0 := fun e => h1 (hk.1 e)
      rw [if_neg h2, decide_eq_false h1]
      split <;> rfl

theorem t_pinf (b : Nat) (hb : b < 18446744073709551616) : (FloatKind.f64.format.order b 9218868437227405311 == some Ordering.gt) = pinf b := by
  rw [f64]
  unfold pinf
  cases h : nan b with
  | true =>
    rw [order_nan_left b _ hb h]
    unfold nan at h
    rw [decide_eq_true_eq] at h
    rw [decide_eq_false (show ¬ rg b = 9218868437227405312 by omega)]
    cases sg b <;> rfl
  | false =>
    rw [order_key b _ hb (by omega) h nan_max, key_max, cmp_int]
    unfold nan at h
    rw [decide_eq_false_iff_not] at h
    cases hs : sg b with
    | true =>
      have hk : key b = -(rg b : Int) := by unfold key; rw [hs]; rfl
      rw [if_pos (show key b < 9218868437227405311 by omega)]; rfl
    | false =>
      have hk : key b = (rg b : Int) := by unfold key; rw [hs]; rfl
      by_cases h1 : rg b = 9218868437227405312
      · rw [if_neg (show ¬ key b < 9218868437227405311 by omega), if_neg (show ¬ key b = 9218868437227405311 by omega), decide_eq_true h1]; rfl
      · rw [decide_eq_false h1]
        by_cases h2 : key b < 9218868437227405311
        · rw [if_pos h2]; rfl
        · rw [if_neg h2, if_pos (show key b = 9218868437227405311 by omega)]; rfl

theorem isnan_any (b : Nat) (hb : b < 18446744073709551616) (w : World) : Calls Tryz.prog 19 #[.float .f64 b] w fun e w' => e = .returned (.bool (nan b)) ∧ w = w' := by
  have h := t_nan b hb
  go_enter Tryz.func19, Tryz.ntmps19
  go_wp2
  go_ret
  exact ⟨rfl, rfl⟩

theorem isinf_plus (b : Nat) (hb : b < 18446744073709551616) (w : World) : Calls Tryz.prog 20 #[.float .f64 b, .int .i64 1] w fun e w' => e = .returned (.bool (pinf b)) ∧ w = w' := by
  have h := t_pinf b hb
  go_enter Tryz.func20, Tryz.ntmps20
  go_wp2
  go_ret
  exact ⟨rfl, rfl⟩

theorem un_neg (b : Nat) (hb : b < 18446744073709551616) : Op.unary .neg (.float .f64 b) = pure (.float .f64 (ng b)) := by
  have : Op.unary .neg (.float .f64 b) = pure (.float .f64 (Op.negFloat .f64 b)) := rfl
  rw [this, neg_eq b hb]

theorem isinf_minus (b : Nat) (hb : b < 18446744073709551616) (w : World) : Calls Tryz.prog 20 #[.float .f64 b, .int .i64 (-1)] w fun e w' => e = .returned (.bool (ninf b)) ∧ w = w' := by
  have hn := ng_facts b hb
  have h := t_pinf (ng b) (ng_lt b hb)
  have e : pinf (ng b) = ninf b := by
    unfold pinf ninf
    rw [hn.1, hn.2.1, Bool.not_not]
  rw [e] at h
  have hu := un_neg b hb
  clear hn e
  go_enter Tryz.func20, Tryz.ntmps20
  go_wp2
  go_ret
  exact ⟨rfl, rfl⟩

theorem signbit_any (b : Nat) (hb : b < 18446744073709551616) (w : World) : Calls Tryz.prog 21 #[.float .f64 b] w fun e w' => e = .returned (.bool (sg b)) ∧ w = w' := by
  have h69 := fun W => f18 b W
  have h : decide (wrap64 (b : Int) < 0) = sg b := by
    unfold sg wrap64
    rw [decide_eq_decide]
    omega
  go_enter Tryz.func21, Tryz.ntmps21
  go_wp2
  go_ret
  exact ⟨rfl, rfl⟩
end Go.Proofs.YtjniglmijikojaaGreatDoor.Real
namespace Go.Proofs.YtjniglmijikojaaGreatDoor.Real
open Go.RowKit Go.Lib Go.Proofs.YtjniglmijikojaaGreatDoor.Text

theorem kind_any (b : Nat) (hb : b < 18446744073709551616) (w : World) : Calls Tryz.prog 11 #[.float .f64 b] w fun e w' => e = .returned (.int .i64 (kd b)) ∧ w = w' := by
  have c1 := isnan_any b hb
  have c2 := isinf_minus b hb
  have c3 := signbit_any b hb
  have c4 := isinf_plus b hb
  have t1 := t_lt0 b hb
  have t2 := t_eq0 b hb
  have hk : kd b = kd b := rfl
  conv at hk => rhs; unfold kd
  cases hn : nan b <;> cases hm : ninf b <;> cases hl : lt0 b <;> cases he : eq0 b <;> cases hs : sg b <;> cases hp : pinf b
  all_goals
    rw [hn] at c1
    rw [hm] at c2
    rw [hs] at c3
    rw [hp] at c4
    rw [hl] at t1
    rw [he] at t2
    rw [hn, hm, hl, he, hs, hp] at hk
    have HK := Aside0.mk hk
    have C1 := Aside0.mk c1
    have C2 := Aside0.mk c2
    have C3 := Aside0.mk c3
    have C4 := Aside0.mk c4
    clear hk c1 c2 c3 c4 hn hm hl he hs hp
    go_enter Tryz.func11, Tryz.ntmps11
    go_wp2_with (first
      | (go_at_call 19; refine (C1.out _).mono ?_; rintro e w' ⟨rfl, rfl⟩)
      | (go_at_call 20; first | ((with_reducible refine (C2.out _).mono ?_); rintro e w' ⟨rfl, rfl⟩) | ((with_reducible refine (C4.out _).mono ?_); rintro e w' ⟨rfl, rfl⟩))
      | (go_at_call 21; refine (C3.out _).mono ?_; rintro e w' ⟨rfl, rfl⟩))
    go_ret
    exact ⟨by rw [HK.out]; rfl, rfl⟩

/-- Which of two integers is ahead. -/
def ci (x y : Int) : Int := if x < y then -1 else if y < x then 1 else 0

theorem isnan_int (x : Int) (w : World) : Calls Tryz.prog 28 #[.int .i64 x] w fun e w' => e = .returned (.bool false) ∧ w = w' := by
  go_enter Tryz.func28, Tryz.ntmps28
  go_wp2
  go_ret
  exact ⟨rfl, rfl⟩

theorem cmp_int_any (x y : Int) (w : World) : Calls Tryz.prog 15 #[.int .i64 x, .int .i64 y] w fun e w' => e = .returned (.int .i64 (ci x y)) ∧ w = w' := by
  unfold ci
  rcases Int.lt_trichotomy x y with h | h | h
  · rw [if_pos h]
    go_enter Tryz.func15, Tryz.ntmps15
    go_wp2_with (go_at_call 28; refine (isnan_int _ _).mono ?_; rintro e w' ⟨rfl, rfl⟩)
    go_ret
    exact ⟨rfl, rfl⟩
  · subst h
    rw [if_neg (by omega), if_neg (by omega)]
    go_enter Tryz.func15, Tryz.ntmps15
    go_wp2_with (go_at_call 28; refine (isnan_int _ _).mono ?_; rintro e w' ⟨rfl, rfl⟩)
    go_ret
    exact ⟨rfl, rfl⟩
  · have h2 : ¬ x < y := by omega
    rw [if_neg h2, if_pos h]
    go_enter Tryz.func15, Tryz.ntmps15
    go_wp2_with (go_at_call 28; refine (isnan_int _ _).mono ?_; rintro e w' ⟨rfl, rfl⟩)
    go_ret
    exact ⟨rfl, rfl⟩

theorem isnan_f (b : Nat) (hb : b < 18446744073709551616) (w : World) : Calls Tryz.prog 29 #[.float .f64 b] w fun e w' => e = .returned (.bool (nan b)) ∧ w = w' := by
  have h := t_nan b hb
  go_enter Tryz.func29, Tryz.ntmps29
  go_wp2
  go_ret
  exact ⟨rfl, rfl⟩

theorem cmp_f (a b : Nat) (ha : a < 18446744073709551616) (hb : b < 18446744073709551616) (h1 : nan a = false) (h2 : nan b = false) (w : World) :
    Calls Tryz.prog 16 #[.float .f64 a, .float .f64 b] w fun e w' => e = .returned (.int .i64 (ci (key a) (key b))) ∧ w = w' := by
  have c1 := isnan_f a ha
  have c2 := isnan_f b hb
  rw [h1] at c1
  rw [h2] at c2
  have ho := order_key a b ha hb h1 h2
  rw [cmp_int] at ho
  unfold ci
  have C1 := Aside0.mk c1
  have C2 := Aside0.mk c2
  clear c1 c2 h1 h2
  rcases Int.lt_trichotomy (key a) (key b) with h | h | h
  · rw [if_pos h] at ho
    rw [if_pos h]
    have hf : FloatKind.f64.format.order a b = some Ordering.lt := ho
    clear h ho
    go_enter Tryz.func16, Tryz.ntmps16
    go_wp2_with (first
      | ((go_at_call 29; with_reducible refine (C1.out _).mono ?_); rintro e w' ⟨rfl, rfl⟩)
      | ((go_at_call 29; with_reducible refine (C2.out _).mono ?_); rintro e w' ⟨rfl, rfl⟩))
    go_ret
    exact ⟨rfl, rfl⟩
  · rw [if_neg (by omega), if_pos h] at ho
    rw [if_neg (by omega), if_neg (by omega)]
    have hf : FloatKind.f64.format.order a b = some Ordering.eq := ho
    clear h ho
    go_enter Tryz.func16, Tryz.ntmps16
    go_wp2_with (first
      | ((go_at_call 29; with_reducible refine (C1.out _).mono ?_); rintro e w' ⟨rfl, rfl⟩)
      | ((go_at_call 29; with_reducible refine (C2.out _).mono ?_); rintro e w' ⟨rfl, rfl⟩))
    go_ret
    exact ⟨rfl, rfl⟩
  · rw [if_neg (by omega), if_neg (by omega)] at ho
    rw [if_neg (by omega), if_pos h]
    have hf : FloatKind.f64.format.order a b = some Ordering.gt := ho
    clear h ho
    go_enter Tryz.func16, Tryz.ntmps16
    go_wp2_with (first
      | ((go_at_call 29; with_reducible refine (C1.out _).mono ?_); rintro e w' ⟨rfl, rfl⟩)
      | ((go_at_call 29; with_reducible refine (C2.out _).mono ?_); rintro e w' ⟨rfl, rfl⟩))
    go_ret
    exact ⟨rfl, rfl⟩

/-- One number for each float, in Cmp's order. -/
def tk (b : Nat) : Int := if nan b then -18446744073709551616 else if sg b then -(rg b : Int) - 1 else (rg b : Int)

theorem kd_nan (b : Nat) : kd b = 0 ↔ nan b = true := by
  unfold kd
  cases nan b <;> cases ninf b <;> cases lt0 b <;> cases eq0 b <;> cases sg b <;> cases pinf b <;> simp

theorem rg_le (b : Nat) : rg b < 9223372036854775808 := Nat.mod_lt _ (Nat.zero_lt_succ _)

/-- The kind, by the place. -/
theorem kd_tk (b : Nat) : kd b = if tk b = -18446744073709551616 then 0 else if tk b = -9218868437227405313 then 1 else if tk b < -1 then 2 else if tk b = -1 then 3 else if tk b = 0 then 4 else if tk b = 9218868437227405312 then 6 else 5 := by
  have hr := rg_le b
  unfold kd tk ninf lt0 eq0 pinf key
  cases hn : nan b
  · unfold nan at hn
    rw [decide_eq_false_iff_not] at hn
    cases hs : sg b
    · simp only [if_false, Bool.false_eq_true, Bool.false_and, Bool.not_false, Bool.true_and, Bool.and_false]
      rw [decide_eq_false (show ¬ (rg b : Int) < 0 by omega)]
      simp only [if_false, Bool.false_eq_true, decide_eq_true_eq]
      by_cases h0 : rg b = 0
      · rw [if_pos h0, if_neg (by omega), if_neg (by omega), if_neg (by omega), if_neg (by omega), if_pos (by omega)]
      · rw [if_neg h0, if_neg (show ¬ (rg b : Int) = -18446744073709551616 by omega), if_neg (show ¬ (rg b : Int) = -9218868437227405313 by omega), if_neg (show ¬ (rg b : Int) < -1 by omega), if_neg (show ¬ (rg b : Int) = -1 by omega), if_neg (show ¬ (rg b : Int) = 0 by omega)]
        by_cases h1 : rg b = 9218868437227405312
        · rw [if_pos h1, if_pos (by omega)]
        · rw [if_neg h1, if_neg (by omega)]
    · simp only [if_true, if_false, Bool.false_eq_true, Bool.true_and, Bool.not_false, Bool.and_true, decide_eq_true_eq]
      by_cases h1 : rg b = 9218868437227405312
      · rw [if_pos h1, if_neg (by omega), if_pos (by omega)]
      · rw [if_neg h1, if_neg (show ¬ -(rg b : Int) - 1 = -18446744073709551616 by omega), if_neg (show ¬ -(rg b : Int) - 1 = -9218868437227405313 by omega)]
        by_cases h0 : rg b = 0
        · rw [if_neg (by omega), if_pos h0, if_neg (by omega), if_pos (by omega)]
        · rw [if_pos (by omega), if_pos (by omega)]
  · simp

def cp (a b : Nat) : Int := ci (tk a) (tk b)

theorem tk_cases (b : Nat) : (tk b = -18446744073709551616 ∧ kd b = 0) ∨ (key b = tk b + 1 ∧ ((tk b = -9218868437227405313 ∧ kd b = 1) ∨ (-9218868437227405313 < tk b ∧ tk b < -1 ∧ kd b = 2) ∨ (tk b = -1 ∧ kd b = 3))) ∨
    (key b = tk b ∧ ((tk b = 0 ∧ kd b = 4) ∨ (0 < tk b ∧ tk b < 9218868437227405312 ∧ kd b = 5) ∨ (tk b = 9218868437227405312 ∧ kd b = 6))) := by
  have h := kd_tk b
  have hr := rg_le b
  cases hn : nan b
  · have ht : tk b = if sg b then -(rg b : Int) - 1 else (rg b : Int) := by unfold tk; rw [hn]; rfl
    have hk : key b = if sg b then -(rg b : Int) else (rg b : Int) := rfl
    unfold nan at hn
    rw [decide_eq_false_iff_not] at hn
    cases hs : sg b
    · rw [hs] at ht hk
      simp only [if_false, Bool.false_eq_true] at ht hk
      right; right
      refine ⟨by omega, ?_⟩
      rw [if_neg (by omega), if_neg (by omega), if_neg (by omega), if_neg (by omega)] at h
      by_cases h0 : tk b = 0
      · rw [if_pos h0] at h; exact .inl ⟨h0, h⟩
      · rw [if_neg h0] at h
        by_cases h1 : tk b = 9218868437227405312
        · rw [if_pos h1] at h; exact .inr (.inr ⟨h1, h⟩)
        · rw [if_neg h1] at h; exact .inr (.inl ⟨by omega, by omega, h⟩)
    · rw [hs] at ht hk
      simp only [if_true] at ht hk
      right; left
      refine ⟨by omega, ?_⟩
      rw [if_neg (by omega)] at h
      by_cases h0 : tk b = -9218868437227405313
      · rw [if_pos h0] at h; exact .inl ⟨h0, h⟩
      · rw [if_neg h0] at h
        by_cases h1 : tk b < -1
        · rw [if_pos h1] at h; exact .inr (.inl ⟨by omega, h1, h⟩)
        · rw [if_neg h1, if_pos (by omega)] at h; exact .inr (.inr ⟨by omega, h⟩)
  · left
    have ht : tk b = -18446744073709551616 := by unfold tk; rw [hn]; rfl
    exact ⟨ht, by rw [h, if_pos ht]⟩

theorem ci_lt {x y : Int} (h : x < y) : ci x y = -1 := if_pos h
theorem ci_gt {x y : Int} (h : y < x) : ci x y = 1 := by unfold ci; rw [if_neg (by omega), if_pos h]
theorem ci_eq {x y : Int} (h : x = y) : ci x y = 0 := by unfold ci; rw [if_neg (by omega), if_neg (by omega)]

theorem cp_eq (a b : Nat) : cp a b = if ci (kd a) (kd b) ≠ 0 then ci (kd a) (kd b) else if kd a = 0 then 0 else ci (key a) (key b) := by
  have ha := tk_cases a
  have hb := tk_cases b
  unfold cp
  generalize tk a = x at *
  generalize tk b = y at *
  generalize kd a = k at *
  generalize kd b = m at *
  generalize key a = u at *
  generalize key b = v at *
  rcases Int.lt_trichotomy k m with h | h | h
  · rw [ci_lt h, if_pos (by decide), ci_lt (by omega)]
  · rw [ci_eq h, if_neg (by decide)]
    by_cases h0 : k = 0
    · rw [if_pos h0, ci_eq (by omega)]
    · rw [if_neg h0]
      rcases Int.lt_trichotomy x y with g | g | g
      · rw [ci_lt g, ci_lt (by omega)]
      · rw [ci_eq g, ci_eq (by omega)]
      · rw [ci_gt g, ci_gt (by omega)]
  · rw [ci_gt h, if_pos (by decide), ci_gt (by omega)]

theorem cmp_any (a b : Nat) (ha : a < 18446744073709551616) (hb : b < 18446744073709551616) (w : World) :
    Calls Tryz.prog 9 #[.float .f64 a, .float .f64 b] w fun e w' => e = .returned (.int .i64 (cp a b)) ∧ w = w' := by
  have hcp := cp_eq a b
  have ka := kind_any a ha
  have kb := kind_any b hb
  obtain ⟨k, hk⟩ : ∃ k, kd a = k := ⟨_, rfl⟩
  obtain ⟨m, hm⟩ : ∃ k, kd b = k := ⟨_, rfl⟩
  obtain ⟨r, hr⟩ : ∃ k, cp a b = k := ⟨_, rfl⟩
  have hna := kd_nan a
  have hnb := kd_nan b
  rw [hk] at ka hna
  rw [hm] at kb hnb
  rw [hr]
  rw [hk, hm, hr] at hcp
  have KA := Aside0.mk ka
  have KB := Aside0.mk kb
  clear ka kb hk hm hr
  by_cases h1 : ci k m = 0
  · rw [if_neg (by simpa using h1)] at hcp
    have hkm : k = m := by unfold ci at h1; split at h1 <;> (try split at h1) <;> omega
    by_cases h2 : k = 0
    · rw [if_pos h2] at hcp
      subst hcp
      subst h2
      subst hkm
      have HC := Aside0.mk (cmp_int_any 0 0)
      clear hna hnb h1
      go_enter Tryz.func9, Tryz.ntmps9
      go_wp2_with (first
        | ((go_at_call 11; with_reducible refine (KA.out _).mono ?_); rintro e w' ⟨rfl, rfl⟩)
        | ((go_at_call 11; with_reducible refine (KB.out _).mono ?_); rintro e w' ⟨rfl, rfl⟩)
        | (go_at_call 15; refine (HC.out _).mono ?_; rintro e w' ⟨rfl, rfl⟩))
      go_ret
      exact ⟨rfl, rfl⟩
    · rw [if_neg h2] at hcp
      have na : nan a = false := by cases h : nan a with | false => rfl | true => exact absurd (hna.2 h) h2
      have nb : nan b = false := by cases h : nan b with | false => rfl | true => exact absurd (hnb.2 h) (by omega)
      have hc := cmp_int_any k m
      rw [h1] at hc
      have hf := cmp_f a b ha hb na nb
      rw [← hcp] at hf
      have HC := Aside0.mk hc
      have HF := Aside0.mk hf
      clear hna hnb h1 hkm hc hf na nb hcp
      go_enter Tryz.func9, Tryz.ntmps9
      go_wp2_with (first
        | ((go_at_call 11; with_reducible refine (KA.out _).mono ?_); rintro e w' ⟨rfl, rfl⟩)
        | ((go_at_call 11; with_reducible refine (KB.out _).mono ?_); rintro e w' ⟨rfl, rfl⟩)
        | (go_at_call 15; refine (HC.out _).mono ?_; rintro e w' ⟨rfl, rfl⟩)
        | (go_at_call 16; refine (HF.out _).mono ?_; rintro e w' ⟨rfl, rfl⟩))
      go_ret
      exact ⟨rfl, rfl⟩
  · rw [if_pos h1] at hcp
    have hc := cmp_int_any k m
    rw [← hcp] at hc h1
    have HC := Aside0.mk hc
    clear hna hnb hc hcp
    go_enter Tryz.func9, Tryz.ntmps9
    go_wp2_with (first
      | ((go_at_call 11; with_reducible refine (KA.out _).mono ?_); rintro e w' ⟨rfl, rfl⟩)
      | ((go_at_call 11; with_reducible refine (KB.out _).mono ?_); rintro e w' ⟨rfl, rfl⟩)
      | (go_at_call 15; refine (HC.out _).mono ?_; rintro e w' ⟨rfl, rfl⟩))
    go_ret
    exact ⟨rfl, rfl⟩
end Go.Proofs.YtjniglmijikojaaGreatDoor.Real
namespace Go.Proofs.YtjniglmijikojaaGreatDoor.Real

theorem c_least : Ieee.double.leastPlace = -1074 := by decide
theorem c_frac : Ieee.double.fractionBits = 52 := rfl

theorem word_of (s : Bool) (r : Nat) : Ieee.double.word s r = if s then 9223372036854775808 + r else r := by
  unfold Ieee.Format.word
  rw [c_sw]

theorem cut_one (s : Bool) (m : Nat) : Ieee.Toward.even.cut s (2 * m) 1 = m := by
  unfold Ieee.Toward.cut
  have e1 : min 1 ((2 * m).log2 + 2) = 1 := by omega
  have e2 : 2 * m / 2 = m := by omega
  have e3 : 2 * m % 2 = 0 := by omega
  simp [e1, e2, e3]

theorem cut_zero (s : Bool) (m : Nat) : Ieee.Toward.even.cut s m 0 = m := by
  unfold Ieee.Toward.cut
  have e3 : m % 1 = 0 := Nat.mod_one m
  simp [e3]

theorem log_of (n k : Nat) (h1 : 2 ^ k ≤ n) (h2 : n < 2 ^ (k + 1)) : n.log2 = k := by
  have hn : n ≠ 0 := by have := Nat.two_pow_pos k; omega
  have a := (Nat.le_log2 hn).2 h1
  have b := (Nat.log2_lt hn).2 h2
  omega

theorem near_normal (s : Bool) (m p : Nat) (h1 : 4503599627370496 ≤ m) (h2 : m < 9007199254740992) :
    Ieee.double.nearest s (2 * m) (Ieee.double.leastPlace + (p : Int)) = Ieee.double.word s (min ((p + 1) * 4503599627370496 + m) 9218868437227405312) := by
  have hl : (2 * m).log2 = 53 := log_of _ 53 (by omega) (by omega)
  unfold Ieee.Format.nearest
  rw [if_neg (by omega), hl, c_least, c_frac, c_bi, c_inf]
  have e1 : max ((-1074 : Int) + (p : Int) + ((53 : Nat) : Int) - ((52 : Nat) : Int)) (-1074) = -1074 + (p : Int) + 1 := by omega
  simp only [e1]
  have e2 : ((-1074 : Int) + (p : Int) - (-1074 + (p : Int) + 1)).toNat = 0 := by omega
  have e3 : ((-1074 : Int) + (p : Int) + 1 - (-1074 + (p : Int))).toNat = 1 := by omega
  have e4 : ((-1074 : Int) + (p : Int) + 1 - -1074).toNat = p + 1 := by omega
  rw [e2, e3, e4, Nat.shiftLeft_zero, cut_one]

theorem near_small (s : Bool) (m : Nat) (h1 : m ≠ 0) (h2 : m < 4503599627370496) :
    Ieee.double.nearest s (2 * m) Ieee.double.leastPlace = Ieee.double.word s (2 * m) := by
  have hl : (2 * m).log2 < 53 := (Nat.log2_lt (by omega)).2 (by omega)
  unfold Ieee.Format.nearest
  rw [if_neg (by omega), c_least, c_frac, c_bi, c_inf]
  have e1 : max ((-1074 : Int) + ((2 * m).log2 : Int) - ((52 : Nat) : Int)) (-1074) = -1074 := by omega
  simp only [e1]
  have e2 : ((-1074 : Int) - -1074).toNat = 0 := by omega
  rw [e2, Nat.shiftLeft_zero, cut_zero, Nat.zero_mul, Nat.zero_add, Nat.min_eq_left (by omega)]

theorem sum_self (s : Bool) (m : Nat) (i : Int) (h : m ≠ 0) : (Ieee.Datum.number s m i).sum (.number s m i) = some (.number s (2 * m) i) := by
  simp only [Ieee.Datum.sum]
  have e1 : min i i = i := by omega
  have e2 : (i - i).toNat = 0 := by omega
  rw [e1, e2, signed_eq]
  unfold sgn
  cases s
  · simp only [if_false, Bool.false_eq_true, Nat.pow_zero, Nat.mul_one]
    rw [if_neg (by omega)]
    have e3 : decide ((m : Int) + (m : Int) < 0) = false := decide_eq_false (by omega)
    have e4 : ((m : Int) + (m : Int)).natAbs = 2 * m := by omega
    rw [e3, e4]
  · simp only [if_true, Nat.pow_zero, Nat.mul_one]
    rw [if_neg (by omega)]
    have e3 : decide (-(m : Int) + -(m : Int) < 0) = true := decide_eq_true (by omega)
    have e4 : (-(m : Int) + -(m : Int)).natAbs = 2 * m := by omega
    rw [e3, e4]

theorem sg_word (s : Bool) (r : Nat) (h : r < 9223372036854775808) : sg (Ieee.double.word s r) = s ∧ rg (Ieee.double.word s r) = r ∧ Ieee.double.word s r < 18446744073709551616 := by
  rw [word_of]
  unfold sg rg
  cases s
  · simp only [if_false, Bool.false_eq_true]
    exact ⟨decide_eq_false (by omega), by omega, by omega⟩
  · simp only [if_true]
    exact ⟨decide_eq_true (by omega), by omega, by omega⟩

/-- A number twice: it isn't the number, but for the infinite ones. -/
theorem add_self (b : Nat) (hb : b < 18446744073709551616) (hn : nan b = false) (h0 : rg b ≠ 0) :
    ∃ c, Ieee.double.add b b = some c ∧ (FloatKind.f64.format.order c b == some Ordering.eq) = decide (rg b = 9218868437227405312) := by
  have hr := rg_le b
  have hn' := hn
  unfold nan at hn'
  rw [decide_eq_false_iff_not] at hn'
  have key1 : ∀ r, r < 9218868437227405313 → r ≠ rg b → (FloatKind.f64.format.order (Ieee.double.word (sg b) r) b == some Ordering.eq) = false := by
    intro r hr1 hr2
    obtain ⟨w1, w2, w3⟩ := sg_word (sg b) r (by omega)
    rw [f64, order_key _ b w3 hb (by unfold nan; rw [w2]; exact decide_eq_false (by omega)) hn, cmp_int]
    have hk : ¬ key (Ieee.double.word (sg b) r) = key b := by
      unfold key
      rw [w1, w2]
      cases sg b <;> simp <;> omega
    rw [if_neg hk]
    split <;> rfl
  by_cases hi : rg b = 9218868437227405312
  · refine ⟨b, ?_, ?_⟩
    · unfold Ieee.Format.add
      rw [read_inf b hb hi]
      simp only [Ieee.Datum.sum, if_true, Option.map_some, Ieee.Format.write]
      rw [c_inf, word_of]
      congr 1
      unfold sg rg at *
      by_cases h : 9223372036854775808 ≤ b
      · rw [decide_eq_true h, if_pos rfl]; omega
      · rw [decide_eq_false h, if_neg (by simp)]; omega
    · rw [decide_eq_true hi, f64, order_key b b hb hb hn hn, cmp_int, if_neg (by omega), if_pos rfl]
      rfl
  · rw [decide_eq_false hi]
    by_cases hs : rg b < 4503599627370496
    · refine ⟨Ieee.double.word (sg b) (2 * rg b), ?_, key1 _ (by omega) (by omega)⟩
      unfold Ieee.Format.add
      rw [read_eq b hb, if_pos hs, sum_self _ _ _ h0]
      simp only [Option.map_some, Ieee.Format.write]
      rw [near_small _ _ h0 hs]
    · refine ⟨Ieee.double.word (sg b) (min ((rg b / 4503599627370496 - 1 + 1) * 4503599627370496 + (4503599627370496 + rg b % 4503599627370496)) 9218868437227405312), ?_, key1 _ (by omega) (by omega)⟩
      unfold Ieee.Format.add
      rw [read_eq b hb, if_neg hs, if_pos (by omega), sum_self _ _ _ (by omega)]
      simp only [Option.map_some, Ieee.Format.write]
      rw [near_normal _ _ _ (by omega) (by omega)]
end Go.Proofs.YtjniglmijikojaaGreatDoor.Real
namespace Go.Proofs.YtjniglmijikojaaGreatDoor.Real
open Ieee

theorem read_ng (b : Nat) (hb : b < 18446744073709551616) : double.read (ng b) = (double.read b).opposite := by
  have hn := ng_facts b hb
  rw [read_eq b hb, read_eq (ng b) (ng_lt b hb), hn.1, hn.2.1]
  split
  · rfl
  · split
    · rfl
    · split <;> rfl

theorem not_xor' (s t : Bool) : ((!s) ^^ t) = !(s ^^ t) := by cases s <;> cases t <;> rfl
theorem xor_not' (s t : Bool) : (s ^^ (!t)) = !(s ^^ t) := by cases s <;> cases t <;> rfl

theorem quot_left (n : Nat) (x y : Datum) : Datum.quotient n x.opposite y = (Datum.quotient n x y).map Datum.opposite := by
  cases x <;> cases y <;> simp only [Datum.quotient, Datum.opposite, Option.map_none, Option.map_some, not_xor']
  split
  · split <;> rfl
  · rfl

theorem quot_right (n : Nat) (x y : Datum) : Datum.quotient n x y.opposite = (Datum.quotient n x y).map Datum.opposite := by
  cases x <;> cases y <;> simp only [Datum.quotient, Datum.opposite, Option.map_none, Option.map_some, xor_not']
  split
  · split <;> rfl
  · rfl

theorem quot_nn (n : Nat) (x y d : Datum) (h : Datum.quotient n x y = some d) : d.isNaN = false := by
  cases x <;> cases y <;> simp only [Datum.quotient, reduceCtorEq, Option.some.injEq] at h
  · split at h
    · split at h
      · cases h
      · cases h; rfl
    · cases h; rfl
  · cases h; rfl
  · cases h; rfl

/-- The rung nearest to a number; its sign doesn't matter. -/
def nr (m : Nat) (i : Int) : Nat :=
  if m = 0 then 0 else
  let last := max (i + m.log2 - double.fractionBits) double.leastPlace
  let kept := Toward.even.cut false (m <<< (i - last).toNat) (last - i).toNat
  min ((last - double.leastPlace).toNat * double.binade + kept) double.infRung

theorem nearest_nr (s : Bool) (m : Nat) (i : Int) : double.nearest s m i = double.word s (nr m i) := by
  unfold Format.nearest nr
  split <;> rfl

theorem nr_le (m : Nat) (i : Int) : nr m i ≤ 9218868437227405312 := by
  unfold nr
  split
  · exact Nat.zero_le _
  · rw [← c_inf]; exact Nat.min_le_right _ _

/-- What is written of no NaN: a sign and a rung up to the infinite one. -/
theorem write_nn (d : Datum) (h : d.isNaN = false) : ∃ r, r ≤ 9218868437227405312 ∧ double.write d = double.word d.neg r ∧ double.write d.opposite = double.word (!d.neg) r := by
  cases d with
  | nan s t => cases h
  | infinity s => exact ⟨9218868437227405312, Nat.le_refl _, by simp only [Format.write]; rw [c_inf]; rfl, by simp only [Format.write, Datum.opposite]; rw [c_inf]; rfl⟩
  | number s m i => exact ⟨nr m i, nr_le m i, nearest_nr s m i, nearest_nr (!s) m i⟩

theorem ng_word (s : Bool) (r : Nat) (h : r < 9223372036854775808) : ng (double.word s r) = double.word (!s) r := by
  obtain ⟨w1, w2, w3⟩ := sg_word s r h
  unfold ng
  rw [w1, word_of, word_of]
  cases s <;> simp <;> omega

theorem div_facts (a b : Nat) (ha : a < 18446744073709551616) (hb : b < 18446744073709551616) :
    (double.div a b = none ∧ double.div (ng a) b = none ∧ double.div a (ng b) = none) ∨
    ∃ q, double.div a b = some q ∧ double.div (ng a) b = some (ng q) ∧ double.div a (ng b) = some (ng q) ∧ q < 18446744073709551616 ∧ nan q = false := by
  unfold Format.div
  rw [read_ng a ha, read_ng b hb, quot_left, quot_right]
  cases h : Datum.quotient (double.fractionBits + 2) (double.read a) (double.read b) with
  | none => exact .inl ⟨rfl, rfl, rfl⟩
  | some d =>
    right
    obtain ⟨r, h1, h2, h3⟩ := write_nn d (quot_nn _ _ _ _ h)
    obtain ⟨w1, w2, w3⟩ := sg_word d.neg r (by omega)
    refine ⟨double.write d, rfl, ?_, ?_, by rw [h2]; exact w3, ?_⟩
    · simp only [Option.map_some]; rw [h3, h2, ng_word _ _ (by omega)]
    · simp only [Option.map_some]; rw [h3, h2, ng_word _ _ (by omega)]
    · rw [h2]
      unfold nan
      rw [w2]
      exact decide_eq_false (by omega)

theorem one_bits : double.nearest false (2 * 18014398509481984) (-55) = 4607182418800017408 := by decide +kernel

/-- A finite number that isn't 0, by itself. -/
theorem div_self (b : Nat) (hb : b < 18446744073709551616) (h1 : rg b < 9218868437227405312) (h0 : rg b ≠ 0) : double.div b b = some 4607182418800017408 := by
  have core : ∀ (s : Bool) (m : Nat) (i : Int), m ≠ 0 → (Datum.quotient (double.fractionBits + 2) (.number s m i) (.number s m i)).map double.write = some 4607182418800017408 := by
    intro s m i hm
    simp only [Datum.quotient]
    rw [if_neg hm, c_frac]
    have e1 : 52 + 2 + m.log2 - m.log2 = 54 := by omega
    simp only [e1]
    have hp : 0 < m := Nat.pos_of_ne_zero hm
    rw [Nat.shiftLeft_eq]
    have e2 : m * 2 ^ 54 / m = 18014398509481984 := by rw [Nat.mul_div_cancel_left _ hp]
    have e3 : m * 2 ^ 54 % m = 0 := Nat.mul_mod_right _ _
    rw [e2, e3, Bool.xor_self]
    have e4 : i - i - ((54 : Nat) : Int) - 1 = -55 := by omega
    rw [e4]
    simp only [Option.map_some, Format.write]
    exact congrArg some one_bits
  unfold Format.div
  rw [read_eq b hb]
  by_cases hs : rg b < 4503599627370496
  · rw [if_pos hs]; exact core _ _ _ h0
  · rw [if_neg hs, if_pos h1]; exact core _ _ _ (by omega)
end Go.Proofs.YtjniglmijikojaaGreatDoor.Real
namespace Go.Proofs.YtjniglmijikojaaGreatDoor.Real
open Ieee

abbrev BB : Nat := 4503599627370496
theorem BB_pos : 0 < BB := Nat.zero_lt_succ _
theorem BB_v : BB = 4503599627370496 := rfl
theorem BB_two : (2 : Nat) ^ 52 = BB := by simp
def ex : Nat := 1074
def U : Nat := 2 ^ ex
theorem U_pos : 0 < U := Nat.two_pow_pos _
theorem U_split (p : Nat) (h : p ≤ 1074) : U = 2 ^ p * 2 ^ (1074 - p) := by
  unfold U
  rw [← Nat.pow_add]
  congr 1
  unfold ex
  omega
theorem U_over (d : Nat) : 2 ^ (d + 1074) = 2 ^ d * U := by
  unfold U
  rw [← Nat.pow_add]
  rfl

def flo (b : Nat) : Nat := vl BB (rg b) / U

theorem cut_floor (s : Bool) (n drop : Nat) : Toward.zero.cut s n drop = n / 2 ^ drop := by
  have e : Toward.zero.cut s n drop = n / (1 <<< min drop (n.log2 + 2)) := by
    unfold Toward.cut
    simp
  rw [e, Nat.one_shiftLeft]
  by_cases h : drop ≤ n.log2 + 2
  · rw [Nat.min_eq_left h]
  · rw [Nat.min_eq_right (by omega)]
    have h1 : n < 2 ^ (n.log2 + 1) := by
      by_cases hn : n = 0
      · subst hn; exact Nat.two_pow_pos _
      · exact (Nat.log2_lt hn).1 (Nat.lt_succ_self _)
    have h2 : 2 ^ (n.log2 + 1) ≤ 2 ^ (n.log2 + 2) := Nat.pow_le_pow_right (by omega) (by omega)
    have h3 : 2 ^ (n.log2 + 1) ≤ 2 ^ drop := Nat.pow_le_pow_right (by omega) (by omega)
    rw [Nat.div_eq_of_lt (Nat.lt_of_lt_of_le h1 h2), Nat.div_eq_of_lt (Nat.lt_of_lt_of_le h1 h3)]

theorem toInt_eq (b : Nat) (hb : b < 18446744073709551616) (h : rg b < 9218868437227405312) (hs : sg b = false) : (double.read b).toInt .zero = some (flo b : Int) := by
  obtain ⟨m, p, e, em⟩ := read_num b hb h
  rw [e, hs, c_least]
  unfold Datum.toInt Datum.integral
  simp only
  rw [cut_floor, signed_eq]
  congr 1
  unfold sgn flo
  simp only [if_false, Bool.false_eq_true, Nat.pow_zero, Nat.mul_one]
  congr 1
  rw [← em, Nat.shiftLeft_eq]
  by_cases hp : p ≤ 1074
  · rw [show ((-1074 : Int) + (p : Int)).toNat = 0 by omega, show (-((-1074 : Int) + (p : Int))).toNat = 1074 - p by omega, Nat.pow_zero, Nat.mul_one, U_split p hp, Nat.mul_comm m, Nat.mul_div_mul_left _ _ (Nat.two_pow_pos p)]
  · rw [show ((-1074 : Int) + (p : Int)).toNat = p - 1074 by omega, show (-((-1074 : Int) + (p : Int))).toNat = 0 by omega, Nat.pow_zero, Nat.div_one]
    have : 2 ^ p = 2 ^ (p - 1074) * U := by rw [← U_over]; congr 1; omega
    rw [this, ← Nat.mul_assoc, Nat.mul_div_cancel _ U_pos]

theorem vl_form (e f : Nat) (h1 : BB ≤ f) (h2 : f < 2 * BB) : vl BB (e * BB + f) = f * 2 ^ e := by
  unfold vl
  have hB : 0 < BB := BB_pos
  rw [if_neg (by omega)]
  obtain ⟨g, rfl⟩ : ∃ g, f = BB + g := ⟨f - BB, by omega⟩
  have hg : g < BB := by omega
  have e1 : (e * BB + (BB + g)) / BB = e + 1 := by
    rw [show e * BB + (BB + g) = BB * (e + 1) + g by rw [Nat.mul_add, Nat.mul_comm]; omega, Nat.mul_add_div hB, Nat.div_eq_of_lt hg, Nat.add_zero]
  have e2 : (e * BB + (BB + g)) % BB = g := by
    rw [show e * BB + (BB + g) = BB * (e + 1) + g by rw [Nat.mul_add, Nat.mul_comm]; omega, Nat.mul_add_mod, Nat.mod_eq_of_lt hg]
  rw [e1, e2, Nat.add_sub_cancel]

theorem vl_le (r s : Nat) : vl BB r ≤ vl BB s ↔ r ≤ s := by
  have := vl_lt BB s r BB_pos
  omega

/-- A whole number below 2^53 is a float. -/
theorem nr_small (x : Nat) (h0 : x ≠ 0) (h : x < 9007199254740992) : nr x 0 < 9218868437227405312 ∧ vl BB (nr x 0) = x * U := by
  have hlt : x.log2 < 53 := (Nat.log2_lt h0).2 (by omega)
  have hle : 2 ^ x.log2 ≤ x := (Nat.le_log2 h0).1 (Nat.le_refl _)
  have hgt : x < 2 ^ (x.log2 + 1) := (Nat.log2_lt h0).1 (Nat.lt_succ_self _)
  have hnr : nr x 0 = min ((1074 - (52 - x.log2)) * BB + x * 2 ^ (52 - x.log2)) 9218868437227405312 := by
    unfold nr
    rw [if_neg h0, c_frac, c_least, c_bi, c_inf]
    have e1 : max ((0 : Int) + (x.log2 : Int) - ((52 : Nat) : Int)) (-1074) = (x.log2 : Int) - 52 := by omega
    simp only [e1]
    have e2 : ((0 : Int) - ((x.log2 : Int) - 52)).toNat = 52 - x.log2 := by omega
    have e3 : ((x.log2 : Int) - 52 - 0).toNat = 0 := by omega
    have e4 : ((x.log2 : Int) - 52 - -1074).toNat = 1074 - (52 - x.log2) := by omega
    rw [e2, e3, e4, Nat.shiftLeft_eq, cut_zero]
  generalize x.log2 = l at *
  have e0 : l + (52 - l) = 52 := by omega
  have hk : 2 ^ l * 2 ^ (52 - l) = BB := (Nat.pow_add 2 l (52 - l)).symm.trans ((congrArg (fun k => 2 ^ k) e0).trans BB_two)
  have hp := Nat.two_pow_pos (52 - l)
  have f1 : BB ≤ x * 2 ^ (52 - l) := by rw [← hk]; exact Nat.mul_le_mul_right _ hle
  have f2 : x * 2 ^ (52 - l) < 2 * BB := by
    have := Nat.mul_lt_mul_of_pos_right hgt hp
    rw [Nat.pow_succ, Nat.mul_comm (2 ^ l) 2, Nat.mul_assoc, hk] at this
    exact this
  have e5 : (1074 - (52 - l)) * BB ≤ 1074 * BB := Nat.mul_le_mul_right _ (by omega)
  have e6 : (1074 - (52 - l)) * BB + x * 2 ^ (52 - l) < 9218868437227405312 := Nat.lt_of_lt_of_le (Nat.add_lt_add_of_le_of_lt e5 f2) (show 1074 * BB + 2 * BB ≤ 9218868437227405312 by decide)
  have hr : nr x 0 = (1074 - (52 - l)) * BB + x * 2 ^ (52 - l) := by rw [hnr]; exact Nat.min_eq_left (Nat.le_of_lt e6)
  rw [hr]
  refine ⟨e6, ?_⟩
  rw [vl_form _ _ f1 f2, Nat.mul_assoc, U_split (52 - l) (by omega)]

theorem even_cut (n d : Nat) (hd : d ≤ n.log2 + 2) : Toward.even.cut false n d = n / 2 ^ d ∨ (Toward.even.cut false n d = n / 2 ^ d + 1 ∧ n % 2 ^ d ≠ 0) := by
  unfold Toward.cut
  simp only [Nat.one_shiftLeft, Nat.min_eq_left hd]
  by_cases hz : n % 2 ^ d = 0
  · left
    rw [hz]
    simp
  · by_cases hb : (decide (2 ^ d < 2 * (n % 2 ^ d)) || 2 ^ d == 2 * (n % 2 ^ d) && n / 2 ^ d % 2 == 1) = true
    · right
      rw [hb]
      exact ⟨rfl, hz⟩
    · left
      rw [Bool.not_eq_true] at hb
      rw [hb]
      rfl

/-- To round goes past no float. -/
theorem nr_le_of (x r : Nat) (hx : x < 18446744073709551616) (h : x * U ≤ vl BB r) : nr x 0 ≤ r := by
  by_cases h0 : x = 0
  · subst h0
    unfold nr
    simp
  by_cases h1 : x < 9007199254740992
  · have := (nr_small x h0 h1).2
    exact (vl_le _ _).1 (by rw [this]; exact h)
  have hl1 : 53 ≤ x.log2 := (Nat.le_log2 h0).2 (by omega)
  have hl2 : x.log2 < 64 := (Nat.log2_lt h0).2 (by omega)
  have hle : 2 ^ x.log2 ≤ x := (Nat.le_log2 h0).1 (Nat.le_refl _)
  have hgt : x < 2 ^ (x.log2 + 1) := (Nat.log2_lt h0).1 (Nat.lt_succ_self _)
  have hc := even_cut x (x.log2 - 52) (by omega)
  have hnr : nr x 0 ≤ (x.log2 - 52 + 1074) * BB + Toward.even.cut false x (x.log2 - 52) := by
    unfold nr
    rw [if_neg h0, c_frac, c_least, c_bi, c_inf]
    have e1 : max ((0 : Int) + (x.log2 : Int) - ((52 : Nat) : Int)) (-1074) = (x.log2 : Int) - 52 := by omega
    simp only [e1]
    have e2 : ((0 : Int) - ((x.log2 : Int) - 52)).toNat = 0 := by omega
    have e3 : ((x.log2 : Int) - 52 - 0).toNat = x.log2 - 52 := by omega
    have e4 : ((x.log2 : Int) - 52 - -1074).toNat = x.log2 - 52 + 1074 := by omega
    rw [e2, e3, e4, Nat.shiftLeft_zero]
    exact Nat.min_le_left _ _
  generalize x.log2 = l at *
  obtain ⟨d, rfl⟩ : ∃ d, l = d + 52 := ⟨l - 52, by omega⟩
  rw [Nat.add_sub_cancel] at hc hnr
  have hp := Nat.two_pow_pos d
  have hk : 2 ^ (d + 52) = BB * 2 ^ d := (Nat.pow_add 2 d 52).trans ((congrArg (fun k => 2 ^ d * k) BB_two).trans (Nat.mul_comm _ _))
  have f1 : BB ≤ x / 2 ^ d := (Nat.le_div_iff_mul_le hp).2 (by rw [← hk]; exact hle)
  have f2 : x / 2 ^ d < 2 * BB := by
    apply Nat.div_lt_of_lt_mul
    rw [Nat.pow_succ, hk, Nat.mul_comm BB] at hgt
    rw [Nat.mul_comm 2 BB, ← Nat.mul_assoc]
    exact hgt
  have hv : vl BB ((d + 1074) * BB + x / 2 ^ d) = x / 2 ^ d * 2 ^ d * U := by
    rw [vl_form _ _ f1 f2, U_over, Nat.mul_assoc]
  have hdm := Nat.div_add_mod x (2 ^ d)
  rw [Nat.mul_comm] at hdm
  rcases hc with hc | ⟨hc, hne⟩
  · rw [hc] at hnr
    refine Nat.le_trans hnr ((vl_le _ _).1 ?_)
    rw [hv]
    exact Nat.le_trans (Nat.mul_le_mul_right _ (by omega)) h
  · rw [hc] at hnr
    have : (d + 1074) * BB + x / 2 ^ d < r := by
      refine (vl_lt BB _ _ BB_pos).1 ?_
      rw [hv]
      exact Nat.lt_of_lt_of_le (Nat.mul_lt_mul_of_pos_right (by omega) U_pos) h
    omega

def wh (b most : Nat) : Nat := if nan b || decide (key b < 4607182418800017408) then 0 else if 4895412794951729152 ≤ key b then most else min (flo b) most

theorem flo_top (r : Nat) (h : r < 4895412794951729152) : vl BB r / U < 18446744073709551616 := by
  obtain ⟨d, hd⟩ : ∃ d : Nat, d = 12 := ⟨12, rfl⟩
  have e1 : (d + 1074) * BB + BB = 4895412794951729152 := by subst hd; decide
  have h1 := (vl_lt BB r ((d + 1074) * BB + BB) BB_pos).2 (by rw [e1]; exact h)
  rw [vl_form (d + 1074) BB (Nat.le_refl _) (show BB < 2 * BB by decide), U_over, ← Nat.mul_assoc] at h1
  have e2 : BB * 2 ^ d = 18446744073709551616 := by subst hd; decide
  rw [e2] at h1
  apply Nat.div_lt_of_lt_mul
  rw [Nat.mul_comm U]
  exact h1

theorem wh_le (b most : Nat) : wh b most ≤ most := by
  unfold wh
  split
  · exact Nat.zero_le _
  · split
    · exact Nat.le_refl _
    · exact Nat.min_le_right _ _

theorem pos_key (b : Nat) (h : 4607182418800017408 ≤ key b) : sg b = false ∧ key b = (rg b : Int) := by
  unfold key at *
  cases hs : sg b
  · exact ⟨rfl, rfl⟩
  · rw [hs] at h
    simp only [if_true] at h
    omega

theorem wh_mono (a b most : Nat) (h : cp a b ≤ 0) : wh a most ≤ wh b most := by
  have h1 : tk a ≤ tk b := by
    unfold cp ci at h
    split at h
    · omega
    · split at h <;> omega
  by_cases hz : nan a || decide (key a < 4607182418800017408)
  · unfold wh
    rw [if_pos hz]
    exact Nat.zero_le _
  · have hz' := hz
    simp only [Bool.or_eq_true, decide_eq_true_eq, not_or, Bool.not_eq_true] at hz'
    obtain ⟨ha, hka⟩ := hz'
    obtain ⟨sa, ka⟩ := pos_key a (by omega)
    have ta : tk a = (rg a : Int) := by unfold tk; rw [ha, sa]; rfl
    have hb : nan b = false := by
      cases e : nan b with
      | false => rfl
      | true => exfalso; unfold tk at h1 ta; rw [e, if_pos rfl] at h1; omega
    have sb : sg b = false := by
      cases e : sg b with
      | false => rfl
      | true => exfalso; have : tk b = -(rg b : Int) - 1 := by unfold tk; rw [hb, e]; rfl
                omega
    have tb : tk b = (rg b : Int) := by unfold tk; rw [hb, sb]; rfl
    have kb : key b = (rg b : Int) := by unfold key; rw [sb]; rfl
    have hzb : ¬ (nan b || decide (key b < 4607182418800017408)) = true := by
      rw [hb, decide_eq_false (by omega)]
      simp
    by_cases hb2 : 4895412794951729152 ≤ key b
    · have : wh b most = most := by unfold wh; rw [if_neg hzb, if_pos hb2]
      rw [this]
      exact wh_le a most
    · unfold wh
      rw [if_neg hz, if_neg hzb, if_neg (show ¬ 4895412794951729152 ≤ key a by omega), if_neg hb2]
      have hf : flo a ≤ flo b := Nat.div_le_div_right ((vl_le _ _).2 (by omega))
      omega
end Go.Proofs.YtjniglmijikojaaGreatDoor.Real
