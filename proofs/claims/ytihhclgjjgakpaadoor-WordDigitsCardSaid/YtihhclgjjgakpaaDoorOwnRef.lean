/- The document's Digits, Hex, Unhex and Number: what they answer. The condition: at most 100 bytes. -/
import Derived.Test.YtihhclgjjgakpaaDoorPWordDigitsx3
import Derived.Test.YtihhclgjjgakpaaDoorPWordDigitsx4
import Derived.Test.YtihhclgjjgakpaaDoorOwnDigits
namespace Go.Proofs.YtihhclgjjgakpaaDoor.Own
open Go.RowKit Go.Lib Go.Proofs.YtihhclgjjgakpaaDoorW.PrintWords Go.Proofs.YtihhclgjjgakpaaDoorW.PrintLast Go.Proofs.YtihhclgjjgakpaaDoorW.PrintMore
open Go.Proofs.YtihhclgjjgakpaaDoor.PWordDigits

def bs (l : List UInt8) : ByteArray := ⟨l.toArray⟩
theorem bs_size (l : List UInt8) : (bs l).size = l.length := by simp [bs, ByteArray.size]
theorem bs_append (a b : List UInt8) : bs (a ++ b) = bs a ++ bs b := by
  apply ByteArray.ext
  simp [bs, ByteArray.data_append]
theorem one_num (x : Int) : strOfNums [x] = bs [UInt8.ofNat x.toNat] := rfl

theorem ref_digits (r : Nat) : ∀ (k u : Nat) (s : List UInt8), nDigits u = r + 1 → r < k → s.length + r ≤ 100 → u < 18446744073709551616 →
    vagabondref01_Digits.l0 k (u : Int) (bs s) = some (bs (decDigits u ++ s)) := by
  induction r with
  | zero =>
    intro k u s h1 h2 h3 h4
    obtain ⟨k, rfl⟩ : ∃ m, k = m + 1 := ⟨k - 1, by omega⟩
    have hu : u < 10 := by
      rw [nDigits] at h1
      split at h1
      · assumption
      · have : 1 ≤ nDigits (u / 10) := by rw [nDigits]; split <;> omega
        omega
    simp only [vagabondref01_Digits.l0, Option.bind_some]
    have e1 : (IntKind.u64.wrap (48 + Int.tmod (u : Int) 10)) % 256 = ((48 + u : Nat) : Int) := by rw [IntKind.wrap_u64, Int.tmod_eq_emod_of_nonneg (by omega)]; omega
    have e2 : IntKind.u64.wrap (Int.tdiv (u : Int) 10) = 0 := by rw [IntKind.wrap_u64, Int.tdiv_eq_ediv_of_nonneg (by omega)]; omega
    rw [e1, e2, one_num, bs_size, bs_size, if_pos (by simp; omega), if_pos rfl, ← bs_append, decDigits, dif_pos hu]
    rfl
  | succ r ih =>
    intro k u s h1 h2 h3 h4
    obtain ⟨k, rfl⟩ : ∃ m, k = m + 1 := ⟨k - 1, by omega⟩
    have hu : ¬ u < 10 := by
      intro h
      rw [nDigits, dif_pos h] at h1
      omega
    have hn : nDigits (u / 10) = r + 1 := by rw [nDigits, dif_neg hu] at h1; omega
    simp only [vagabondref01_Digits.l0, Option.bind_some]
    have e1 : (IntKind.u64.wrap (48 + Int.tmod (u : Int) 10)) % 256 = ((48 + u % 10 : Nat) : Int) := by rw [IntKind.wrap_u64, Int.tmod_eq_emod_of_nonneg (by omega)]; omega
    have e2 : IntKind.u64.wrap (Int.tdiv (u : Int) 10) = ((u / 10 : Nat) : Int) := by rw [IntKind.wrap_u64, Int.tdiv_eq_ediv_of_nonneg (by omega)]; omega
    rw [e1, e2, one_num, bs_size, bs_size, if_pos (by simp; omega), if_neg (by omega), ← bs_append, ih k (u / 10) _ hn (by omega) (by simp; omega) (by omega)]
    congr 2
    conv => rhs; rw [decDigits, dif_neg hu]
    rw [List.append_assoc, Int.toNat_natCast]

theorem digits_f (u : Nat) (h : u < 18446744073709551616) : vagabondref01_Digits.f 25 (u : Int) = some (bs (decDigits u)) := by
  have hn : nDigits u ≤ 20 := by
    by_cases h1 : 1 ≤ u
    · have := Lib.numDigits_eq u h1 h
      split at this <;> omega
    · obtain rfl : u = 0 := by omega
      rw [nDigits]; simp
  have h0 : 1 ≤ nDigits u := by rw [nDigits]; split <;> omega
  have := ref_digits (nDigits u - 1) 25 u [] (by omega) (by omega) (by simp; omega) h
  rw [List.append_nil] at this
  exact this

/-! ### Number -/
def numT : Nat → List UInt8 → Int × Int
  | acc, [] => if acc < 18446744073709551616 then ((acc : Int), 0) else (0, 7)
  | acc, b :: r => if 48 ≤ b.toNat ∧ b.toNat ≤ 57 then numT (acc * 10 + (b.toNat - 48)) r else (0, 4)

def numS (l : List UInt8) : Int × Int := if l = [] then (0, 4) else if 1 < l.length ∧ l.head? = some 48 then (0, 4) else numT 0 l

theorem bt_bs (l : List UInt8) (i : Nat) (b : UInt8) (h : l[i]? = some b) : bt (bs l) (i : Int) = (b.toNat : Int) := by
  obtain ⟨hi, hb⟩ := List.getElem?_eq_some_iff.1 h
  rw [← bt_at (bs l) (i : Int) (by rw [bs_size]; simpa using hi)]
  subst hb
  rfl

theorem ref_num (l : List UInt8) (hl : l.length ≤ 100) (r : List UInt8) : ∀ (k i acc : Nat) (n : Int) (g : Bool), l.drop i = r → i ≤ l.length → 2 * r.length < k → g = decide (18446744073709551616 ≤ acc) → (acc < 18446744073709551616 → n = acc) →
    0 ≤ n → vagabondref01_Number.l0 k (bs l) n g (i : Int) = some (numT acc r) := by
  induction r with
  | nil =>
    intro k i acc n g h1 h2 h3 h4 h5 h6
    obtain ⟨k, rfl⟩ : ∃ m, k = m + 1 := ⟨k - 1, by simp at h3; omega⟩
    have hi : l.length ≤ i := by simpa using h1
    simp only [vagabondref01_Number.l0, bs_size]
    rw [if_neg (by omega), numT, h4]
    by_cases h : acc < 18446744073709551616
    · rw [if_pos h, if_neg (by simp; omega), h5 h]
    · rw [if_neg h, if_pos (by simp; omega)]
  | cons b r ih =>
    intro k i acc n g h1 h2 h3 h4 h5 h6
    simp only [List.length_cons] at h3
    obtain ⟨k, rfl⟩ : ∃ m, k = m + 1 + 1 := ⟨k - 2, by omega⟩
    have hi : i < l.length := by
      rcases Nat.lt_or_ge i l.length with h | h
      · exact h
      · rw [List.drop_eq_nil_of_le h] at h1; cases h1
    have hb : l[i]? = some b := by
      rw [List.drop_eq_getElem_cons hi] at h1
      injection h1 with e1 e2
      rw [List.getElem?_eq_getElem hi, e1]
    have hr : l.drop (i + 1) = r := by
      rw [List.drop_eq_getElem_cons hi] at h1
      injection h1 with e1 e2
    have hbt := bt_bs l i b hb
    have h255 := b.toNat_lt
    simp only [vagabondref01_Number.l0, bs_size, hbt]
    rw [if_pos (by omega), if_pos (by omega), numT]
    by_cases d0 : (b.toNat : Int) < 48
    · rw [if_pos d0, if_neg (by omega)]
      simp [vagabondref01_Number.j2]
    · rw [if_neg d0]
      simp only [vagabondref01_Number.j2, bs_size, hbt]
      by_cases d1 : (b.toNat : Int) > 57
      · rw [if_pos (by simp; omega), if_neg (by omega)]
      · have hw : wrap64 ((i : Int) + 1) = ((i + 1 : Nat) : Int) := by rw [wrap64_in (by omega)]; omega
        have hd : (((b.toNat : Int) - 48) % 256) = ((b.toNat - 48 : Nat) : Int) := by omega
        rw [if_neg (by simp; omega), if_pos (by omega), if_pos (by omega), hw, hd, show (if 48 ≤ b.toNat ∧ b.toNat ≤ 57 then numT (acc * 10 + (b.toNat - 48)) r else ((0 : Int), (4 : Int))) = numT (acc * 10 + (b.toNat - 48)) r from if_pos (by omega)]
        have hn0 : 0 ≤ IntKind.u64.wrap (IntKind.u64.wrap (n * 10) + ((b.toNat - 48 : Nat) : Int)) := by rw [IntKind.wrap_u64]; omega
        by_cases hg : acc < 18446744073709551616
        · have hn := h5 hg
          subst hn
          by_cases ho : (acc : Int) > (18446744073709551615 - ((b.toNat - 48 : Nat) : Int)) / 10
          · rw [if_pos ho]
            exact ih (k + 1 - 1) (i + 1) _ _ _ hr hi (by omega) (by symm; rw [decide_eq_true_eq]; omega) (by intro h; omega) hn0
          · rw [if_neg ho]
            refine ih (k + 1 - 1) (i + 1) _ _ _ hr hi (by omega) (by rw [h4]; rw [decide_eq_decide]; omega) (fun h => ?_) hn0
            rw [IntKind.wrap_u64, IntKind.wrap_u64]; omega
        · have hgt : g = true := by rw [h4]; simp; omega
          subst hgt
          have hacc : decide (18446744073709551616 ≤ acc * 10 + (b.toNat - 48)) = true := by rw [decide_eq_true_eq]; omega
          split
          · exact ih (k + 1 - 1) (i + 1) _ _ _ hr hi (by omega) hacc.symm (by intro h; omega) hn0
          · exact ih (k + 1 - 1) (i + 1) _ _ _ hr hi (by omega) hacc.symm (by intro h; omega) hn0

theorem number_f (l : List UInt8) (hl : l.length ≤ 100) : vagabondref01_Number.f 300 (bs l) = some (numS l) := by
  unfold vagabondref01_Number.f numS
  rw [bs_size]
  by_cases h0 : l = []
  · subst h0
    simp [vagabondref01_Number.j0]
  · have hp : 0 < l.length := List.length_pos_iff.2 h0
    have go := ref_num l hl l 299 0 0 0 false rfl (by omega) (by omega) (by decide) (fun _ => rfl) (by omega)
    rw [if_neg (by omega), if_neg h0]
    by_cases h1 : 1 < l.length
    · rw [if_pos (by omega), if_pos (by omega)]
      obtain ⟨b, r, rfl⟩ : ∃ b r, l = b :: r := by
        cases l with
        | nil => exact absurd rfl h0
        | cons b r => exact ⟨b, r, rfl⟩
      have hbt : bt (bs (b :: r)) 0 = (b.toNat : Int) := bt_bs (b :: r) 0 b rfl
      rw [hbt]
      simp only [vagabondref01_Number.j0]
      by_cases hz : b = 48
      · subst hz
        rw [if_pos (by decide), if_pos ⟨h1, rfl⟩]
      · have hz' : ¬ ((b.toNat : Int) == 48) = true := by
          rw [beq_iff_eq]
          intro h
          exact hz (UInt8.toNat_inj.1 (by simpa using Int.ofNat.inj h))
        rw [if_neg hz', if_neg (by simp [hz])]
        exact go
    · rw [if_neg (by omega), if_neg (by omega)]
      simp only [vagabondref01_Number.j0]
      rw [if_neg (by simp)]
      exact go
end Go.Proofs.YtihhclgjjgakpaaDoor.Own
