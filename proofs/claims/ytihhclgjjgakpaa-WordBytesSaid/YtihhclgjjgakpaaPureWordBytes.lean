/- WordBytes: any number as bytes, any bytes as a number are as the document says; sums and differences do not go round. No conditions. -/
import Derived.Test.YtihhclgjjgakpaaPWordBytesx2
import Derived.Test.YtihhclgjjgakpaaOwnBytes
namespace Go.Proofs.Ytihhclgjjgakpaa.Pure
open Go.RowKit Go.Proofs.Ytihhclgjjgakpaa.PWordBytes Go.Proofs.YtihhclgjjgakpaaW.PrintWords Go.Proofs.YtihhclgjjgakpaaW.PrintLast Go.Proofs.YtihhclgjjgakpaaW.PrintMore
open Go.Proofs.Ytihhclgjjgakpaa.Own

theorem bytes_awake : vagabondlaw01_awake.f 10 = some true := by decide +kernel

theorem bytes_put (a size : Int) : word_Put.f 10 a size = some (strOfNums (be (mn (mx size 0) 8).toNat a)) := by
  unfold word_Put.f
  have h0 : 0 ≤ mn (mx size 0) 8 ∧ mn (mx size 0) 8 ≤ 8 := by unfold mn mx; constructor <;> split <;> (try split) <;> omega
  generalize mn (mx size 0) 8 = m at h0
  have h1 : m = 0 ∨ m = 1 ∨ m = 2 ∨ m = 3 ∨ m = 4 ∨ m = 5 ∨ m = 6 ∨ m = 7 ∨ m = 8 := by omega
  rcases h1 with rfl | rfl | rfl | rfl | rfl | rfl | rfl | rfl | rfl <;> simp [word_Put.l0, wrap64, be]

theorem str_append (xs ys : List Int) : strOfNums (xs ++ ys) = strOfNums xs ++ strOfNums ys := by
  unfold strOfNums
  apply ByteArray.ext
  simp [ByteArray.data_append]

theorem str_size (xs : List Int) : (strOfNums xs).size = xs.length := by simp [strOfNums, ByteArray.size]

theorem ref_put (r : Nat) : ∀ (k : Nat) (n size i : Int) (s : ByteArray), 0 ≤ n → n < 18446744073709551616 → 0 ≤ i → i ≤ 8 → mn (mx size 0) 8 - i = r → r < k → s.size + r ≤ 100 →
    vagabondref01_Put.l0 k n size s i = some (strOfNums (be r n) ++ s) := by
  induction r with
  | zero =>
    intro k n size i s h0 h1 h2 h3 h4 h5 h6
    obtain ⟨k, rfl⟩ : ∃ m, k = m + 1 := ⟨k - 1, by omega⟩
    have he : strOfNums (be 0 n) ++ s = s := by
      apply ByteArray.ext
      simp [be, strOfNums, ByteArray.data_append]
    simp only [vagabondref01_Put.l0]
    rw [he]
    unfold mn mx at h4
    by_cases h : i < size
    · rw [if_pos h, if_neg (by split at h4 <;> split at h4 <;> omega)]
    · rw [if_neg h]
  | succ r ih =>
    intro k n size i s h0 h1 h2 h3 h4 h5 h6
    obtain ⟨k, rfl⟩ : ∃ m, k = m + 1 := ⟨k - 1, by omega⟩
    have h7 : i < size ∧ i < 8 := by unfold mn mx at h4; split at h4 <;> split at h4 <;> omega
    simp only [vagabondref01_Put.l0]
    rw [if_pos h7.1, if_pos h7.2]
    simp only [Option.bind_some]
    rw [if_pos (by rw [str_size]; simp; omega)]
    have ht : Int.tmod n 256 % 256 = n % 256 := by rw [Int.tmod_eq_emod_of_nonneg h0]; omega
    have hd : IntKind.u64.wrap (Int.tdiv n 256) = n / 256 := by rw [Int.tdiv_eq_ediv_of_nonneg h0, IntKind.wrap_u64]; omega
    rw [ht, hd, wrap64_in (by omega)]
    rw [ih k (n / 256) size (i + 1) _ (by omega) (by omega) (by omega) (by omega) (by omega) (by omega) (by rw [ByteArray.size_append, str_size]; simp; omega)]
    rw [be, str_append, ByteArray.append_assoc]

theorem or_add (n b : Int) (h0 : 0 ≤ b) (h1 : b ≤ 255) : Go.bits .or .u64 (IntKind.u64.wrap (n * 256)) (IntKind.u64.wrap b) = IntKind.u64.wrap (IntKind.u64.wrap (n * 256) + IntKind.u64.wrap b) := by
  simp only [IntKind.wrap_u64]
  rw [bits_join .u64 64 (by decide) (fun n h0 h1 => by rw [IntKind.wrap_u64]; omega) 8 _ _ (by omega) (by omega) (by omega) (by omega) (by omega) (by omega)]
  omega

theorem get_ref (s : ByteArray) : ∀ (k : Nat) (n i : Int), word_Get.l0 k s n s.size i = (vagabondref01_Get.l0 k s n i).map fun v => (v, 0) := by
  intro k
  induction k with
  | zero => intro n i; rfl
  | succ k ih =>
    intro n i
    simp only [word_Get.l0, vagabondref01_Get.l0]
    by_cases h : i < (s.size : Int)
    · by_cases h0 : 0 ≤ i
      · simp only [if_pos h, if_pos h0]
        rw [or_add _ _ (bt_range s i).1 (bt_range s i).2, ih]
      · simp only [if_pos h, if_neg h0]; rfl
    · simp only [if_neg h]; rfl

theorem ref_get (s : ByteArray) (hs : s.size ≤ 8) (d : Nat) : ∀ (k : Nat) (n i : Int), 0 ≤ i → (s.size : Int) - i ≤ d → d < k → ∃ v, vagabondref01_Get.l0 k s n i = some v := by
  induction d with
  | zero =>
    intro k n i h0 h1 h2
    obtain ⟨k, rfl⟩ : ∃ m, k = m + 1 := ⟨k - 1, by omega⟩
    exact ⟨n, by simp only [vagabondref01_Get.l0]; rw [if_neg (by omega)]⟩
  | succ d ih =>
    intro k n i h0 h1 h2
    obtain ⟨k, rfl⟩ : ∃ m, k = m + 1 := ⟨k - 1, by omega⟩
    simp only [vagabondref01_Get.l0]
    by_cases h : i < (s.size : Int)
    · rw [if_pos h, if_pos h0]
      have : wrap64 (i + 1) = i + 1 := wrap64_in (by omega)
      rw [this]
      exact ih k _ (i + 1) (by omega) (by omega) (by omega)
    · rw [if_neg h]; exact ⟨n, rfl⟩

theorem bytes_j1 (a b size x e y f d : Int) (ha : 0 ≤ a ∧ a < 18446744073709551616) (hb : 0 ≤ b ∧ b < 18446744073709551616) (hx : x = y) (he : e = f) (hd : d = if b > a then 0 else a - b) :
    vagabondlaw01_WordBytes.j1 11 a b size x e y f d = some true := by
  simp only [vagabondlaw01_WordBytes.j1]
  have hr : vagabondref01_Put.f 10 a size = some (strOfNums (be (mn (mx size 0) 8).toNat a)) := by
    unfold vagabondref01_Put.f
    have h0 : 0 ≤ mn (mx size 0) 8 ∧ mn (mx size 0) 8 ≤ 8 := by unfold mn mx; constructor <;> split <;> (try split) <;> omega
    rw [ref_put (mn (mx size 0) 8).toNat 10 a size 0 _ ha.1 ha.2 (by omega) (by omega) (by omega) (by omega) (by simp [ByteArray.size]; omega)]
    congr 1
    apply ByteArray.ext
    simp [ByteArray.data_append]
  rw [if_pos hx, if_pos he, bytes_put, hr]
  simp only [Option.bind_some, if_true, word_Add.f, vagabondref01_Later.f, word_Sub.f, IntKind.wrap_u64, mn]
  subst hd
  by_cases h : a + b ≤ 18446744073709551615
  · rw [if_neg (by omega), if_neg (by omega)]
    simp
    split <;> split <;> omega
  · rw [if_pos (by omega), if_pos (by omega)]
    simp
    split <;> split <;> omega

theorem bytes_j0 (a b size x e y f : Int) (ha : 0 ≤ a ∧ a < 18446744073709551616) (hb : 0 ≤ b ∧ b < 18446744073709551616) (hx : x = y) (he : e = f) :
    vagabondlaw01_WordBytes.j0 12 a b size x e y f = some true := by
  simp only [vagabondlaw01_WordBytes.j0]
  by_cases h : b > a
  · rw [if_pos h, bytes_j1 _ _ _ _ _ _ _ _ ha hb hx he (by rw [if_pos h])]
  · rw [if_neg h, bytes_j1 _ _ _ _ _ _ _ _ ha hb hx he (by rw [if_neg h, IntKind.wrap_u64]; omega)]

theorem WordBytes : vagabondlaw01_WordBytes.Pure := by
  intro a b size s ha hb hsz hs
  have a0 := wf64 ha
  have b0 := wf64 hb
  refine ⟨12, ?_⟩
  unfold vagabondlaw01_WordBytes.f
  have hw : vagabondlaw01_awake.f 12 = some true := by decide +kernel
  rw [hw]
  simp only [Option.bind_some, if_true]
  by_cases h1 : (s.size : Int) > 100
  · rw [if_pos h1]
  · rw [if_neg h1]
    unfold word_Get.f
    by_cases h2 : s.toList = []
    · simp only [if_pos h2, Option.bind_some]
      exact bytes_j0 _ _ _ _ _ _ _ a0 b0 rfl rfl
    · by_cases h3 : (s.size : Int) > 8
      · simp only [if_neg h2, if_pos h3, Option.bind_some]
        exact bytes_j0 _ _ _ _ _ _ _ a0 b0 rfl rfl
      · simp only [if_neg h2, if_neg h3]
        obtain ⟨v, hv⟩ := ref_get s (by omega) 8 12 0 0 (by omega) (by omega) (by omega)
        rw [get_ref, hv]
        unfold vagabondref01_Get.f
        rw [hv]
        simp only [Option.map_some, Option.bind_some]
        exact bytes_j0 _ _ _ _ _ _ _ a0 b0 rfl rfl

end Go.Proofs.Ytihhclgjjgakpaa.Pure
