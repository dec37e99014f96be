/- Plain laws on decimal digits: how they stand as the numbers that they are. No conditions. -/
import Derived.Test.YtihhclgjjgakpaaDoorOwnBytes
import Derived.Lib.ItoaNum
import Derived.Lib.ItoaMem
namespace Go.Proofs.YtihhclgjjgakpaaDoor.Own
open Go.RowKit Go.Lib

def dv (l : List UInt8) : Nat := l.foldl (fun n b => n * 10 + (b.toNat - 48)) 0

theorem foldl_dv (l : List UInt8) (n : Nat) : l.foldl (fun n b => n * 10 + (b.toNat - 48)) n = n * 10 ^ l.length + dv l := by
  induction l generalizing n with
  | nil => simp [dv]
  | cons b l ih =>
    unfold dv
    simp only [List.foldl_cons, List.length_cons]
    rw [ih, ih (0 * 10 + (b.toNat - 48)), Nat.pow_succ, Nat.zero_mul, Nat.zero_add, Nat.add_mul, Nat.mul_assoc n, Nat.mul_comm 10]; omega

theorem dv_cons (b : UInt8) (l : List UInt8) : dv (b :: l) = (b.toNat - 48) * 10 ^ l.length + dv l := by
  have := foldl_dv l (b.toNat - 48)
  unfold dv at *
  simp only [List.foldl_cons, Nat.zero_mul, Nat.zero_add]; exact this

def Dec (l : List UInt8) : Prop := ∀ b, b ∈ l → 48 ≤ b.toNat ∧ b.toNat ≤ 57

theorem dv_lt (l : List UInt8) (h : Dec l) : dv l < 10 ^ l.length := by
  induction l with
  | nil => simp [dv]
  | cons b l ih =>
    rw [dv_cons, List.length_cons, Nat.pow_succ]
    have h1 := h b (List.mem_cons_self ..)
    have h2 : (b.toNat - 48) * 10 ^ l.length ≤ 9 * 10 ^ l.length := Nat.mul_le_mul_right _ (by omega)
    have := ih (fun c hc => h c (List.mem_cons_of_mem _ hc))
    omega

theorem less_dv (x y : List UInt8) (h : x.length = y.length) (dx : Dec x) (dy : Dec y) : Op.bytesLess x y = decide (dv x < dv y) := by
  induction x generalizing y with
  | nil =>
    cases y with
    | nil => simp [Op.bytesLess, dv]
    | cons b y => simp at h
  | cons a x ih =>
    cases y with
    | nil => simp at h
    | cons b y =>
      simp only [List.length_cons, Nat.add_right_cancel_iff] at h
      have dx' : Dec x := fun c hc => dx c (List.mem_cons_of_mem _ hc)
      have dy' : Dec y := fun c hc => dy c (List.mem_cons_of_mem _ hc)
      have ha := dx a (List.mem_cons_self ..)
      have hb := dy b (List.mem_cons_self ..)
      rw [Op.bytesLess, ih y h dx' dy', dv_cons, dv_cons, h]
      have hx := dv_lt x dx'
      have hy := dv_lt y dy'
      rw [h] at hx
      rw [Bool.eq_iff_iff]
      simp only [Bool.or_eq_true, Bool.and_eq_true, decide_eq_true_eq, beq_iff_eq]
      rw [UInt8.lt_iff_toNat_lt]
      constructor
      · rintro (h1 | ⟨rfl, h2⟩)
        · have := Nat.mul_le_mul_right (10 ^ y.length) (show a.toNat - 48 + 1 ≤ b.toNat - 48 by omega)
          rw [Nat.add_mul] at this
          omega
        · omega
      · intro h1
        by_cases h2 : a.toNat < b.toNat
        · exact .inl h2
        · right
          by_cases h3 : a.toNat = b.toNat
          · exact ⟨UInt8.toNat_inj.1 h3, by rw [h3] at h1; omega⟩
          · exfalso
            have := Nat.mul_le_mul_right (10 ^ y.length) (show b.toNat - 48 + 1 ≤ a.toNat - 48 by omega)
            rw [Nat.add_mul] at this
            omega

theorem dec_digits (u : Nat) : Dec (decDigits u) ∧ dv (decDigits u) = u := by
  induction u using Nat.strongRecOn with
  | _ u ih =>
    rw [decDigits]
    by_cases h : u < 10
    · rw [dif_pos h]
      have : (UInt8.ofNat (48 + u)).toNat = 48 + u := ofNat_toNat _ (by omega)
      exact ⟨fun b hb => by obtain rfl : b = UInt8.ofNat (48 + u) := by simpa using hb
                            omega, by simp only [dv, List.foldl_cons, List.foldl_nil, this]; omega⟩
    · rw [dif_neg h]
      obtain ⟨h1, h2⟩ := ih (u / 10) (by omega)
      have : (UInt8.ofNat (48 + u % 10)).toNat = 48 + u % 10 := ofNat_toNat _ (by omega)
      refine ⟨fun b hb => ?_, ?_⟩
      · rcases List.mem_append.1 hb with hb | hb
        · exact h1 b hb
        · obtain rfl : b = UInt8.ofNat (48 + u % 10) := by simpa using hb
          omega
      · have h3 : dv (decDigits (u / 10) ++ [UInt8.ofNat (48 + u % 10)]) = dv (decDigits (u / 10)) * 10 + (48 + u % 10 - 48) := by
          rw [← this]
          simp [dv]
        rw [h3, h2]; omega

theorem nDigits_low (u : Nat) : 1 ≤ u → 10 ^ (nDigits u - 1) ≤ u := by
  induction u using Nat.strongRecOn with
  | _ u ih =>
    intro h1
    rw [nDigits]
    by_cases h : u < 10
    · rw [dif_pos h]; simpa using h1
    · rw [dif_neg h]
      have := ih (u / 10) (by omega) (by omega)
      have hp : 1 ≤ nDigits (u / 10) := by rw [nDigits]; split <;> omega
      rw [show nDigits (u / 10) + 1 - 1 = nDigits (u / 10) - 1 + 1 by omega, Nat.pow_succ]
      omega

theorem digits_less (a b : Nat) : (decide ((decDigits a).length < (decDigits b).length) || (decide ((decDigits a).length = (decDigits b).length) && Op.bytesLess (decDigits a) (decDigits b))) = decide (a < b) := by
  have la := dec_digits a
  have lb := dec_digits b
  have ga := dv_lt _ la.1
  have gb := dv_lt _ lb.1
  rw [la.2, decDigits_length] at ga
  rw [lb.2, decDigits_length] at gb
  rw [decDigits_length, decDigits_length]
  have pa : 1 ≤ nDigits a := by rw [nDigits]; split <;> omega
  have pb : 1 ≤ nDigits b := by rw [nDigits]; split <;> omega
  have low : ∀ x y : Nat, nDigits x < nDigits y → 1 ≤ nDigits x → x < 10 ^ nDigits x → x < y := by
    intro x y h h1 h2
    by_cases hy : 1 ≤ y
    · have h3 := nDigits_low y hy
      have h4 : 10 ^ nDigits x ≤ 10 ^ (nDigits y - 1) := Nat.pow_le_pow_right (by omega) (by omega)
      omega
    · obtain rfl : y = 0 := by omega
      rw [show nDigits 0 = 1 by rw [nDigits]; simp] at h
      omega
  rcases Nat.lt_trichotomy (nDigits a) (nDigits b) with h | h | h
  · have := low a b h pa ga
    simp [h, this]
  · rw [less_dv _ _ (by rw [decDigits_length, decDigits_length, h]) la.1 lb.1, la.2, lb.2]
    simp [h]
  · have := low b a h pb gb
    have h1 : ¬ nDigits a < nDigits b := by omega
    have h2 : ¬ nDigits a = nDigits b := by omega
    have h3 : ¬ a < b := by omega
    simp [h1, h2, h3]
end Go.Proofs.YtihhclgjjgakpaaDoor.Own
