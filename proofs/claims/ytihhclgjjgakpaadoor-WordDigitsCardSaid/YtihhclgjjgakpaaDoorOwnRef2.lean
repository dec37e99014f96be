/- The document's Hex and Unhex: what they answer. The condition: at most 100 bytes. -/
import Derived.Test.YtihhclgjjgakpaaDoorOwnNum
namespace Go.Proofs.YtihhclgjjgakpaaDoor.Fmt
open Go.RowKit Go.Lib Go.Proofs.YtihhclgjjgakpaaDoorW.PrintWords Go.Proofs.YtihhclgjjgakpaaDoorW.PrintLast Go.Proofs.YtihhclgjjgakpaaDoorW.PrintMore
open Go.Proofs.YtihhclgjjgakpaaDoor.Own Go.Proofs.YtihhclgjjgakpaaDoor.PWordDigits

theorem digit_nat (k c : Nat) (h : c < 256) : vagabondref01_Digit.f (k + 1) (c : Int) = some (hexV c : Int) := by
  unfold vagabondref01_Digit.f hexV
  simp only [vagabondref01_Digit.j0]
  by_cases h1 : 48 ≤ c ∧ c ≤ 57
  · rw [if_pos h1, if_pos (show (c : Int) ≥ 48 by omega), if_pos (show decide ((c : Int) ≤ 57) = true by simp; omega)]
    congr 1; omega
  · rw [if_neg h1]
    have e : ∀ x : Option Int, (if (c : Int) ≥ 48 then (if decide ((c : Int) ≤ 57) = true then some (((c : Int) - 48) % 256) else x) else (if false = true then some (((c : Int) - 48) % 256) else x)) = x := by
      intro x
      by_cases h2 : (c : Int) ≥ 48
      · rw [if_pos h2, if_neg (by simp; omega)]
      · rw [if_neg h2, if_neg (by simp)]
    rw [e]
    by_cases h3 : 97 ≤ c ∧ c ≤ 102
    · rw [if_pos h3, if_pos (show (c : Int) ≥ 97 by omega), if_pos (show (c : Int) ≤ 102 by omega)]
      congr 1; omega
    · rw [if_neg h3]
      by_cases h4 : (c : Int) ≥ 97
      · rw [if_pos h4, if_neg (show ¬ (c : Int) ≤ 102 by omega)]; rfl
      · rw [if_neg h4]; rfl

theorem digit_f (k : Nat) (b : UInt8) : vagabondref01_Digit.f (k + 1) (b.toNat : Int) = some (hexV b.toNat : Int) := digit_nat k _ b.toNat_lt

theorem hex_cut (n : Nat) (h : n < 16) : ((⟨#[48, 49, 50, 51, 52, 53, 54, 55, 56, 57, 97, 98, 99, 100, 101, 102]⟩ : ByteArray).extract n (n + 1)) = bs [hexD n] := by
  apply ByteArray.ext
  rw [ByteArray.data_extract]
  apply Array.ext'
  rw [Array.toList_extract]
  have : ∀ m : Fin 16, List.extract [48, 49, 50, 51, 52, 53, 54, 55, 56, 57, 97, 98, 99, 100, 101, 102] m.1 (m.1 + 1) = [hexD m.1] := by decide +kernel
  exact this ⟨n, h⟩

theorem hex_nums (c : Nat) (h : c < 256) : (Int.tdiv (c : Int) 16) % 256 = ((c / 16 : Nat) : Int) ∧ wrap64 (Int.tmod (c : Int) 16) = ((c % 16 : Nat) : Int) ∧ wrap64 (((c % 16 : Nat) : Int) + 1) = ((c % 16 + 1 : Nat) : Int) := by
  refine ⟨?_, ?_, ?_⟩
  · rw [Int.tdiv_eq_ediv_of_nonneg (by omega)]; omega
  · rw [Int.tmod_eq_emod_of_nonneg (by omega)]; unfold wrap64; omega
  · unfold wrap64; omega
theorem wrap_next (i : Nat) (h : i < 1000) : wrap64 ((i : Int) + 1) = ((i + 1 : Nat) : Int) := by unfold wrap64; omega
theorem toNat_next (n : Nat) : (((n : Nat) : Int) + 1).toNat = n + 1 := by omega

set_option maxHeartbeats 4000000 in
theorem ref_hex (l : List UInt8) (hl : l.length ≤ 100) (r : List UInt8) : ∀ (k i : Nat), l.drop i = r → i ≤ l.length → r.length < k →
    vagabondref01_Hex.l0 k (bs l) (bs (hexL (l.take i))) (i : Int) = some (bs (hexL l)) := by
  induction r with
  | nil =>
    intro k i h1 h2 h3
    obtain ⟨k, rfl⟩ : ∃ m, k = m + 1 := ⟨k - 1, by simp at h3; omega⟩
    have hi : l.length ≤ i := by simpa using h1
    simp only [vagabondref01_Hex.l0, bs_size]
    rw [if_neg (by omega), List.take_of_length_le hi]
  | cons b r ih =>
    intro k i h1 h2 h3
    simp only [List.length_cons] at h3
    obtain ⟨k, rfl⟩ : ∃ m, k = m + 1 := ⟨k - 1, by omega⟩
    have hi : i < l.length := by
      rcases Nat.lt_or_ge i l.length with h | h
      · exact h
      · rw [List.drop_eq_nil_of_le h] at h1; cases h1
    have hb : l[i]? = some b := by
      rw [List.drop_eq_getElem_cons hi] at h1
      injection h1 with e1 e2
      rw [List.getElem?_eq_getElem hi, e1]
    have hr : l.drop (i + 1) = r := by
      rw [List.drop_eq_getElem_cons hi] at h1
      injection h1 with e1 e2
    have hbt := bt_bs l i b hb
    have h255 := b.toNat_lt
    have hs : l.take (i + 1) = l.take i ++ [b] := by rw [List.take_add_one, hb]; rfl
    have hlen := hexL_length (l.take i)
    have hlt : (l.take i).length ≤ 100 := by rw [List.length_take]; omega
    obtain ⟨e1, e2, e3⟩ := hex_nums b.toNat h255
    have e4 := wrap_next i (by omega)
    have q1 : b.toNat / 16 < 16 := Nat.div_lt_of_lt_mul (show b.toNat < 16 * 16 from h255)
    have q2 : b.toNat % 16 < 16 := Nat.mod_lt _ (by decide)
    have ex1 := hex_cut _ q1
    have ex2 := hex_cut _ q2
    clear q1 q2
    have n1 : (((b.toNat / 16 : Nat) : Int)).toNat = b.toNat / 16 := Int.toNat_natCast _
    have n2 : ((((b.toNat / 16 : Nat) : Int) + 1)).toNat = b.toNat / 16 + 1 := toNat_next _
    have n3 : (((b.toNat % 16 : Nat) : Int)).toNat = b.toNat % 16 := Int.toNat_natCast _
    have n4 : (((b.toNat % 16 + 1 : Nat) : Int)).toNat = b.toNat % 16 + 1 := Int.toNat_natCast _
    have go := ih k (i + 1) hr hi (Nat.lt_of_succ_lt_succ h3)
    rw [hs, hexL_append] at go
    rw [vagabondref01_Hex.l0]
    simp only [bs_size, hbt, e1, e2, e3, e4, n1, n2, n3, n4, ex1, ex2]
    clear e1 e2 e3 e4 n1 n2 n3 n4 ex1 ex2 hbt
    have e5 : bs (hexL (l.take i)) ++ bs [hexD (b.toNat / 16)] ++ bs [hexD (b.toNat % 16)] = bs (hexL (l.take i) ++ hexL [b]) := by
      rw [← bs_append, ← bs_append, List.append_assoc]; rfl
    rw [if_pos (by omega), if_pos (by omega), if_pos (by omega), if_pos (by omega), if_pos (by omega), if_pos (by rw [hlen]; simp only [List.length_cons, List.length_nil]; omega), if_pos (by omega), if_pos (by omega), if_pos (by omega), if_pos, e5]
    · exact go
    · rw [← bs_append, bs_size]; simp [hlen]; omega

theorem hex_f (l : List UInt8) (hl : l.length ≤ 100) : vagabondref01_Hex.f 101 (bs l) = some (bs (hexL l)) :=
  ref_hex l hl l 101 0 rfl (by omega) (by omega)

theorem ref_unh (l : List UInt8) (hl : l.length ≤ 100) (h : Nat) (he : l.length = 2 * h) (r : Nat) : ∀ (k j : Nat) (xs : List Int), j + r = h → r < k → UnAt l j xs →
    vagabondref01_Unhex.l0 (k + 1) (bs l) (xs ++ List.replicate r 0) (j : Int) = some (match unh l with | some ys => (strOfNums ys, true) | none => (⟨#[]⟩, false)) := by
  induction r with
  | zero =>
    intro k j xs h1 h2 hx
    have hend := unAt_end l j xs hx (by omega)
    simp only [vagabondref01_Unhex.l0]
    rw [if_neg (by simp [hx.1]), hend]
    simp
  | succ r ih =>
    intro k j xs h1 h2 hx
    obtain ⟨k, rfl⟩ : ∃ m, k = m + 1 := ⟨k - 1, by omega⟩
    have hja : 2 * j < l.length := by omega
    have hjb : 2 * j + 1 < l.length := by omega
    obtain ⟨a, ha⟩ : ∃ a, l[2 * j]? = some a := ⟨_, List.getElem?_eq_getElem hja⟩
    obtain ⟨b, hb⟩ : ∃ b, l[2 * j + 1]? = some b := ⟨_, List.getElem?_eq_getElem hjb⟩
    have e0 : wrap64 (2 * (j : Int)) = ((2 * j : Nat) : Int) := by rw [wrap64_in (by omega)]; omega
    have e1 : wrap64 (((2 * j : Nat) : Int) + 1) = ((2 * j + 1 : Nat) : Int) := by rw [wrap64_in (by omega)]; omega
    have e2 : wrap64 ((j : Int) + 1) = ((j + 1 : Nat) : Int) := by rw [wrap64_in (by omega)]; omega
    have la := hexV_le a.toNat
    have lb := hexV_le b.toNat
    have hxl := hx.1
    rw [vagabondref01_Unhex.l0]
    simp only [bs_size, e0, e1, e2, bt_bs l _ a ha, bt_bs l _ b hb, digit_f, Option.bind_some]
    rw [if_pos (by simp [hxl]; omega), if_pos (by omega), if_pos (by omega), if_pos (by omega), if_pos (by omega)]
    by_cases h16 : hexV a.toNat < 16 ∧ hexV b.toNat < 16
    · rw [if_neg (by omega), if_neg (by omega), if_pos (by omega)]
      have hx' := unAt_succ l j xs a b hx ha hb h16.1 h16.2
      have go := ih k (j + 1) _ (by omega) (by omega) hx'
      rw [← go]
      congr 1
      rw [Int.toNat_natCast]
      have e5 : ((hexV a.toNat : Int) * 16 % 256 + (hexV b.toNat : Int)) % 256 = ((hexV a.toNat * 16 + hexV b.toNat : Nat) : Int) := by omega
      rw [e5, List.replicate_succ, List.set_append_right _ _ (by omega), hxl, Nat.sub_self]
      simp
    · have hn := unh_fail l j hja (by
        by_cases h1 : hexV a.toNat = 16
        · exact .inr (.inl ⟨a, ha, h1⟩)
        · exact .inr (.inr ⟨b, hb, by omega⟩))
      rw [hn]
      by_cases h1 : hexV a.toNat = 16
      · rw [if_pos (by omega)]
      · rw [if_neg (by omega), if_pos (by omega)]

theorem unhex_f (l : List UInt8) (hl : l.length ≤ 100) : vagabondref01_Unhex.f 103 (bs l) = some (match unh l with | some ys => (strOfNums ys, true) | none => (⟨#[]⟩, false)) := by
  unfold vagabondref01_Unhex.f
  rw [bs_size]
  by_cases ho : l.length % 2 = 1
  · rw [if_pos (by omega), unh_fail l (l.length / 2) (by omega) (.inl (by omega))]
  · have e : wrap64 ((l.length : Int) / 2) = ((l.length / 2 : Nat) : Int) := by rw [wrap64_in (by omega)]; omega
    rw [if_neg (by omega), e, if_pos (by omega), if_pos (by omega), Int.toNat_natCast]
    exact ref_unh l hl (l.length / 2) (by omega) (l.length / 2) 102 0 [] (by omega) (by omega) (unAt_zero l)
end Go.Proofs.YtihhclgjjgakpaaDoor.Fmt
