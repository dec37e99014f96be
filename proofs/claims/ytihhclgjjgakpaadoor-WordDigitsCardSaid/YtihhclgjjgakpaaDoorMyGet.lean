/- Put and Get: what they answer, and the contracts as the walks want them. -/
import Derived.Test.YtihhclgjjgakpaaDoorMyPutCut
import Derived.Test.YtihhclgjjgakpaaDoorPWordSizesx2
import Derived.Test.YtihhclgjjgakpaaDoorMyFmt
namespace Go.Proofs.YtihhclgjjgakpaaDoor.Fmt
open Go.RowKit Go.Lib Go.Proofs.YtihhclgjjgakpaaDoorW.PrintWords Go.Proofs.YtihhclgjjgakpaaDoorW.PrintLast Go.Proofs.YtihhclgjjgakpaaDoorW.PrintMore
open Go.Proofs.YtihhclgjjgakpaaDoor.PWordSizes Go.Proofs.YtihhclgjjgakpaaDoor.Own

theorem awake_any (w : World) : Calls Tryd.prog 5 #[] w fun e w' => e = .returned (.bool true) ∧ Below w.heap.size w w' :=
  vagabondlaw01_awake.calls 10 true w (by decide +kernel)

theorem str_size (xs : List Int) : (strOfNums xs).size = xs.length := by simp [strOfNums, ByteArray.size]

theorem bytes_put (a size : Int) : word_Put.f 10 a size = some (strOfNums (be (mn (mx size 0) 8).toNat a)) := by
  unfold word_Put.f
  have h0 : 0 ≤ mn (mx size 0) 8 ∧ mn (mx size 0) 8 ≤ 8 := by unfold mn mx; constructor <;> split <;> (try split) <;> omega
  generalize mn (mx size 0) 8 = m at h0
  have h1 : m = 0 ∨ m = 1 ∨ m = 2 ∨ m = 3 ∨ m = 4 ∨ m = 5 ∨ m = 6 ∨ m = 7 ∨ m = 8 := by omega
  rcases h1 with rfl | rfl | rfl | rfl | rfl | rfl | rfl | rfl | rfl <;> simp [word_Put.l0, wrap64, be]

theorem put_at (a : Int) (n : Nat) (hn : n ≤ 8) (t : ByteArray) (ht : strOfNums (be n a) = t) (w : World) : Calls Tryd.prog 7 #[.int .u64 a, .int .i64 (n : Int)] w fun e w' => e = .returned (.string t) ∧ Below w.heap.size w w' := by
  subst ht
  have h := word_Put.calls 10 a n _ w (bytes_put a n)
  have : (mn (mx (n : Int) 0) 8).toNat = n := by unfold mn mx; split <;> split <;> omega
  rw [this] at h
  exact h

theorem or_add (n b : Int) (h0 : 0 ≤ b) (h1 : b ≤ 255) : Go.bits .or .u64 (IntKind.u64.wrap (n * 256)) (IntKind.u64.wrap b) = IntKind.u64.wrap (IntKind.u64.wrap (n * 256) + IntKind.u64.wrap b) := by
  simp only [IntKind.wrap_u64]
  rw [bits_join .u64 64 (by decide) (fun n h0 h1 => by rw [IntKind.wrap_u64]; omega) 8 _ _ (by omega) (by omega) (by omega) (by omega) (by omega) (by omega)]
  omega

theorem get_l (s : ByteArray) (hs : s.size ≤ 8) (r : Nat) : ∀ (k i : Nat), i + r = s.size → r < k →
    word_Get.l0 k s (val (s.data.toList.take i) : Int) s.size i = some ((val s.data.toList : Int), 0) := by
  have hlen : s.data.toList.length = s.size := Array.length_toList
  induction r with
  | zero =>
    intro k i h1 h2
    obtain ⟨k, rfl⟩ : ∃ m, k = m + 1 := ⟨k - 1, by omega⟩
    simp only [word_Get.l0]
    rw [if_neg (by omega), List.take_of_length_le (by omega)]
  | succ r ih =>
    intro k i h1 h2
    obtain ⟨k, rfl⟩ : ∃ m, k = m + 1 := ⟨k - 1, by omega⟩
    simp only [word_Get.l0]
    have hi : i < s.data.toList.length := by omega
    have e : s.data.toList.take (i + 1) = s.data.toList.take i ++ [s.data.toList[i]] := by
      rw [List.take_add_one, List.getElem?_eq_getElem hi]; rfl
    have hb : bt s (i : Int) = ((s.data.toList[i]).toNat : Int) := by
      rw [← bt_at s (i : Int) (by simp; omega)]
      rfl
    have hlt := val_lt (s.data.toList.take i)
    have hp : 256 ^ (s.data.toList.take i).length ≤ 256 ^ 7 := Nat.pow_le_pow_right (by omega) (by rw [List.length_take]; omega)
    have h255 := (s.data.toList[i]).toNat_lt
    rw [if_pos (by omega), if_pos (by omega), if_pos (by omega), or_add _ _ (by rw [hb]; omega) (by rw [hb]; omega), hb, wrap64_in (by omega)]
    have := ih k (i + 1) (by omega) (by omega)
    rw [e, val_snoc] at this
    rw [← this]
    congr 1
    · simp only [IntKind.wrap_u64]; omega

theorem get_at (a : Int) (n : Nat) (h1 : 1 ≤ n) (h8 : n ≤ 8) (t : ByteArray) (ht : strOfNums (be n a) = t) (w : World) :
    Calls Tryd.prog 8 #[.string t] w fun e w' => e = .returned (.tuple #[.int .u64 (a % (256 ^ n : Nat)), .int .i64 0]) ∧ Drawn0 w w' := by
  subst ht
  have hl : (strOfNums (be n a)).data.toList = u8s (be n a) := by unfold strOfNums; simp [u8s]
  have hs : (strOfNums (be n a)).size = n := by rw [str_size, be_length]
  refine word_Get.calls 10 _ _ _ w ?_
  unfold word_Get.f
  have h0 : (strOfNums (be n a)).toList ≠ [] := by
    rw [toList_str]
    intro h
    have := congrArg List.length h
    simp [be_length] at this
    omega
  rw [if_neg h0, hs, if_neg (by omega)]
  have := get_l (strOfNums (be n a)) (by omega) n 10 0 (by omega) (by omega)
  rw [hs, hl, val_be] at this
  exact this

theorem get_none (t : ByteArray) (h : t.toList = []) (w : World) : Calls Tryd.prog 8 #[.string t] w fun e w' => e = .returned (.tuple #[.int .u64 0, .int .i64 3]) ∧ Drawn0 w w' := by
  refine word_Get.calls 10 _ _ _ w ?_
  unfold word_Get.f
  rw [if_pos h]
end Go.Proofs.YtihhclgjjgakpaaDoor.Fmt
