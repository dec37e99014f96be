/- Eight bytes of a number, and back: contracts; the bits of 64. The conditions stand at each. -/
import Derived.Test.YthpmhjlndnelfaaDoorMyGetP
import Derived.Test.YthpmhjlndnelfaaDoorOwnBytes
import Derived.Test.YthpmhjlndnelfaaDoorMyTurned
import Derived.Laws.BitsAllLaws
namespace Go.Proofs.YthpmhjlndnelfaaDoor.Real
open Go.RowKit Go.Lib Go.Proofs.YthpmhjlndnelfaaDoorW.PrintWords Go.Proofs.YthpmhjlndnelfaaDoorW.PrintLast Go.Proofs.YthpmhjlndnelfaaDoorW.PrintMore
open Go.Proofs.YthpmhjlndnelfaaDoor.Own

theorem str_append (xs ys : List Int) : strOfNums (xs ++ ys) = strOfNums xs ++ strOfNums ys := by
  apply ByteArray.ext
  simp [strOfNums, ByteArray.data_append]

theorem str_size (xs : List Int) : (strOfNums xs).size = xs.length := by simp [strOfNums, ByteArray.size]

def P8 (n : Nat) : ByteArray := strOfNums (be 8 (n : Int))
theorem P8_size (n : Nat) : (P8 n).size = 8 := by unfold P8; rw [str_size, be_length]
theorem P8_val (n : Nat) (h : n < 18446744073709551616) : val (P8 n).data.toList = n := by
  have hl : (P8 n).data.toList = u8s (be 8 (n : Int)) := by unfold P8 strOfNums; simp [u8s]
  have := val_be 8 (n : Int)
  rw [← hl] at this
  omega

theorem P8_of (s : ByteArray) (h : s.size = 8) : P8 (val s.data.toList) = s := by
  have hl : s.data.toList.length = 8 := by rw [Array.length_toList]; exact h
  have hlt := val_lt s.data.toList
  rw [hl] at hlt
  have h1 : (P8 (val s.data.toList)).data.toList = s.data.toList := by
    refine val_inj _ _ ?_ (P8_val _ (by omega))
    rw [hl, Array.length_toList]
    exact P8_size _
  apply ByteArray.ext
  exact Array.toList_inj.1 h1

theorem put8 (n : Nat) (t : ByteArray) (ht : P8 n = t) (w : World) : Calls Tryd.prog 68 #[.int .u64 (n : Int), .int .i64 8] w fun e w' => e = .returned (.string t) ∧ Below w.heap.size w w' := by
  subst ht
  refine PRealTurned.word_Put.calls 10 (n : Int) 8 _ w ?_
  unfold PRealTurned.word_Put.f
  have h0 : mn (mx 8 0) 8 = 8 := by decide
  rw [h0]
  simp [PRealTurned.word_Put.l0, wrap64, be, P8]

theorem ref_put (r : Nat) : ∀ (k : Nat) (n i : Int) (s : ByteArray), 0 ≤ n → n < 18446744073709551616 → 0 ≤ i → i ≤ 8 → 8 - i = r → r < k → s.size + r ≤ 100 →
    PRealBytes.vagabondref01_Put.l0 k n 8 s i = some (strOfNums (be r n) ++ s) := by
  induction r with
  | zero =>
    intro k n i s h0 h1 h2 h3 h4 h5 h6
    obtain ⟨k, rfl⟩ : ∃ m, k = m + 1 := ⟨k - 1, by omega⟩
    have he : strOfNums (be 0 n) ++ s = s := by
      apply ByteArray.ext
      simp [be, strOfNums, ByteArray.data_append]
    simp only [PRealBytes.vagabondref01_Put.l0]
    rw [he, if_neg (by omega)]
  | succ r ih =>
    intro k n i s h0 h1 h2 h3 h4 h5 h6
    obtain ⟨k, rfl⟩ : ∃ m, k = m + 1 := ⟨k - 1, by omega⟩
    have h7 : i < 8 := by omega
    simp only [PRealBytes.vagabondref01_Put.l0]
    rw [if_pos h7, if_pos h7]
    simp only [Option.bind_some]
    rw [if_pos (by rw [str_size]; simp; omega)]
    have ht : Int.tmod n 256 % 256 = n % 256 := by rw [Int.tmod_eq_emod_of_nonneg h0]; omega
    have hd : IntKind.u64.wrap (Int.tdiv n 256) = n / 256 := by rw [Int.tdiv_eq_ediv_of_nonneg h0, IntKind.wrap_u64]; omega
    rw [ht, hd, wrap64_in (by omega)]
    rw [ih k (n / 256) (i + 1) _ (by omega) (by omega) (by omega) (by omega) (by omega) (by omega) (by rw [ByteArray.size_append, str_size]; simp; omega)]
    rw [be, str_append, ByteArray.append_assoc]

theorem rput8 (n : Nat) (t : ByteArray) (hn : n < 18446744073709551616) (ht : P8 n = t) (w : World) : Calls Tryd.prog 71 #[.int .u64 (n : Int), .int .i64 8] w fun e w' => e = .returned (.string t) ∧ Below w.heap.size w w' := by
  subst ht
  refine PRealBytes.vagabondref01_Put.calls 10 (n : Int) 8 _ w ?_
  unfold PRealBytes.vagabondref01_Put.f
  rw [ref_put 8 10 (n : Int) 0 _ (by omega) (by omega) (by omega) (by omega) (by omega) (by omega) (by simp [ByteArray.size])]
  congr 1

theorem or_add (n b : Int) (h0 : 0 ≤ b) (h1 : b ≤ 255) : Go.bits .or .u64 (IntKind.u64.wrap (n * 256)) (IntKind.u64.wrap b) = IntKind.u64.wrap (IntKind.u64.wrap (n * 256) + IntKind.u64.wrap b) := by
  simp only [IntKind.wrap_u64]
  rw [bits_join .u64 64 (by decide) (fun n h0 h1 => by rw [IntKind.wrap_u64]; omega) 8 _ _ (by omega) (by omega) (by omega) (by omega) (by omega) (by omega)]
  omega

theorem get_l (s : ByteArray) (hs : s.size ≤ 8) (r : Nat) : ∀ (k i : Nat), i + r = s.size → r < k →
    PRealBytes.word_Get.l0 k s (val (s.data.toList.take i) : Int) s.size i = some ((val s.data.toList : Int), 0) ∧ PRealBytes.vagabondref01_Get.l0 k s (val (s.data.toList.take i) : Int) i = some (val s.data.toList : Int) := by
  have hlen : s.data.toList.length = s.size := Array.length_toList
  induction r with
  | zero =>
    intro k i h1 h2
    obtain ⟨k, rfl⟩ : ∃ m, k = m + 1 := ⟨k - 1, by omega⟩
    simp only [PRealBytes.word_Get.l0, PRealBytes.vagabondref01_Get.l0]
    rw [if_neg (by omega), if_neg (by omega), List.take_of_length_le (by omega)]
    exact ⟨rfl, rfl⟩
  | succ r ih =>
    intro k i h1 h2
    obtain ⟨k, rfl⟩ : ∃ m, k = m + 1 := ⟨k - 1, by omega⟩
    simp only [PRealBytes.word_Get.l0, PRealBytes.vagabondref01_Get.l0]
    have hi : i < s.data.toList.length := by omega
    have c1 : (i : Int) < (s.size : Int) := by omega
    have c2 : (0 : Int) ≤ (i : Int) := by omega
    have c3 := bt_range s (i : Int)
    have e : s.data.toList.take (i + 1) = s.data.toList.take i ++ [s.data.toList[i]] := by
      rw [List.take_add_one, List.getElem?_eq_getElem hi]; rfl
    have hb : bt s (i : Int) = ((s.data.toList[i]).toNat : Int) := by
      rw [← bt_at s (i : Int) (by simp; omega)]
      rfl
    have hlt := val_lt (s.data.toList.take i)
    have hp : 256 ^ (s.data.toList.take i).length ≤ 256 ^ 7 := Nat.pow_le_pow_right (by omega) (by rw [List.length_take]; omega)
    have h255 := (s.data.toList[i]).toNat_lt
    have hv : IntKind.u64.wrap (IntKind.u64.wrap ((val (s.data.toList.take i) : Int) * 256) + IntKind.u64.wrap (((s.data.toList[i]).toNat : Nat) : Int)) = ((val (s.data.toList.take i) * 256 + (s.data.toList[i]).toNat : Nat) : Int) := by
      simp only [IntKind.wrap_u64]; omega
    have hw : wrap64 ((i : Int) + 1) = ((i + 1 : Nat) : Int) := by rw [wrap64_in (by omega)]; omega
    have := ih k (i + 1) (by omega) (by omega)
    rw [e, val_snoc] at this
    rw [if_pos c1, if_pos c2, if_pos c1, if_pos c1, if_pos c2, or_add _ _ c3.1 c3.2, hb, hv, hw]
    exact this

theorem get8 (s : ByteArray) (n : Nat) (hs : s.size = 8) (hn : val s.data.toList = n) (w : World) :
    Calls Tryd.prog 70 #[.string s] w fun e w' => e = .returned (.tuple #[.int .u64 (n : Int), .int .i64 0]) ∧ Below w.heap.size w w' := by
  subst hn
  refine (PRealBytes.word_Get.calls 10 s _ _ w ?_).mono fun _ _ ⟨h1, h2⟩ => ⟨h1, h2.below⟩
  unfold PRealBytes.word_Get.f
  have h0 : ¬ s.toList = [] := by
    rw [ByteArray.toList_eq]
    intro h
    have hl : s.data.toList.length = s.size := Array.length_toList
    rw [h] at hl
    simp at hl
    omega
  rw [if_neg h0, if_neg (by omega)]
  exact (get_l s (by omega) s.size 10 0 (by omega) (by omega)).1

theorem get_any (s : ByteArray) (w : World) : ∃ (v c : Int), Calls Tryd.prog 70 #[.string s] w fun e w' => e = .returned (.tuple #[.int .u64 v, .int .i64 c]) ∧ Below w.heap.size w w' := by
  have go : ∀ v c, PRealBytes.word_Get.f 10 s = some (v, c) → Calls Tryd.prog 70 #[.string s] w fun e w' => e = .returned (.tuple #[.int .u64 v, .int .i64 c]) ∧ Below w.heap.size w w' :=
    fun v c h => (PRealBytes.word_Get.calls 10 s v c w h).mono fun _ _ ⟨h1, h2⟩ => ⟨h1, h2.below⟩
  unfold PRealBytes.word_Get.f at go
  by_cases h0 : s.toList = []
  · exact ⟨0, 3, go _ _ (by rw [if_pos h0])⟩
  · by_cases h1 : (s.size : Int) > 8
    · exact ⟨0, 5, go _ _ (by rw [if_neg h0, if_pos h1])⟩
    · exact ⟨_, _, go _ _ (by rw [if_neg h0, if_neg h1]; exact (get_l s (by omega) s.size 10 0 (by omega) (by omega)).1)⟩

theorem rget8 (s : ByteArray) (n : Nat) (hs : s.size = 8) (hn : val s.data.toList = n) (w : World) :
    Calls Tryd.prog 40 #[.string s] w fun e w' => e = .returned (.int .u64 (n : Int)) ∧ Below w.heap.size w w' := by
  subst hn
  refine (PRealBytes.vagabondref01_Get.calls 10 s _ w ?_).mono fun _ _ ⟨h1, h2⟩ => ⟨h1, h2.below⟩
  exact (get_l s (by omega) s.size 10 0 (by omega) (by omega)).2

/-! ### bits -/
theorem land_top (b : Nat) (hb : b < 18446744073709551616) : b &&& 9223372036854775808 = if sg b then 9223372036854775808 else 0 := by
  have e63 : (9223372036854775808 : Nat) = 2 ^ 63 := rfl
  unfold sg
  by_cases h : 9223372036854775808 ≤ b
  · rw [decide_eq_true h, if_pos rfl]
    obtain ⟨x, rfl⟩ : ∃ x, b = 2 ^ 63 + x := ⟨b - 2 ^ 63, by omega⟩
    have hx : x < 2 ^ 63 := by omega
    rw [e63]
    apply Nat.eq_of_testBit_eq
    intro j
    have e1 := Nat.two_pow_add_eq_or_of_lt hx 1
    rw [Nat.mul_one] at e1
    rw [e1, Nat.testBit_and, Nat.testBit_or, Nat.testBit_two_pow]
    by_cases hj : 63 = j
    · subst hj; simp
    · simp [hj]
  · rw [decide_eq_false h, if_neg (by simp), e63]
    apply Nat.eq_of_testBit_eq
    intro j
    rw [Nat.testBit_and, Nat.testBit_two_pow]
    by_cases hj : 63 = j
    · subst hj; rw [Nat.testBit_lt_two_pow (by omega)]; simp
    · simp [hj]

theorem band (b : Nat) (hb : b < 18446744073709551616) : Go.bits .and .u64 (b : Int) 9223372036854775808 = if sg b then 9223372036854775808 else 0 := by
  have h := (bits_nat .u64 64 (by decide) (fun n h0 h1 => by rw [IntKind.wrap_u64]; omega) b 9223372036854775808 (by omega) (by omega)).1
  have h' : Go.bits .and .u64 (b : Int) 9223372036854775808 = ((b &&& 9223372036854775808 : Nat) : Int) := h
  rw [h', land_top b hb]
  split <;> rfl

theorem bor (b : Nat) (hb : b < 9223372036854775808) : Go.bits .or .u64 (b : Int) 9223372036854775808 = ((b + 9223372036854775808 : Nat) : Int) := by
  have h := (bits_nat .u64 64 (by decide) (fun n h0 h1 => by rw [IntKind.wrap_u64]; omega) b 9223372036854775808 (by omega) (by omega)).2
  have h' : Go.bits .or .u64 (b : Int) 9223372036854775808 = ((b ||| 9223372036854775808 : Nat) : Int) := h
  rw [h']
  congr 1
  have e1 := Nat.two_pow_add_eq_or_of_lt (show b < 2 ^ 63 from hb) 1
  rw [Nat.mul_one] at e1
  rw [Nat.or_comm, Nat.add_comm]
  exact e1.symm

theorem bandnot (b : Nat) (hb : b < 18446744073709551616) : Go.bits .andNot .u64 (b : Int) 9223372036854775808 = (rg b : Int) := by
  have h := u64_andNot_nat b 9223372036854775808 hb (by omega)
  have h' : Go.bits .andNot .u64 (b : Int) 9223372036854775808 = ((b &&& (18446744073709551615 - 9223372036854775808) : Nat) : Int) := h
  rw [h']
  congr 1
  exact Nat.and_two_pow_sub_one_eq_mod b 63

theorem bnot (b : Nat) (hb : b < 18446744073709551616) : Go.bits .xor .u64 18446744073709551615 (b : Int) = ((18446744073709551615 - b : Nat) : Int) := by
  have h := u64_xor_nat 18446744073709551615 b (by omega) hb
  have h' : Go.bits .xor .u64 18446744073709551615 (b : Int) = ((18446744073709551615 ^^^ b : Nat) : Int) := h
  rw [h']
  congr 1
  have e := congrArg BitVec.toNat (BitVec.allOnes_xor (x := BitVec.ofNat 64 b))
  rw [BitVec.toNat_xor, BitVec.toNat_allOnes, BitVec.toNat_not, BitVec.toNat_ofNat, Nat.mod_eq_of_lt (show b < 2 ^ 64 from hb)] at e
  exact e
end Go.Proofs.YthpmhjlndnelfaaDoor.Real
