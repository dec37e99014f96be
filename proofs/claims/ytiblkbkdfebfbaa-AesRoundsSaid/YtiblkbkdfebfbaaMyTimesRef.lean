/- The document's Times: its contract. No conditions. -/
import Derived.Test.YtiblkbkdfebfbaaMyTimes
namespace Go.Proofs.Ytiblkbkdfebfbaa.Aes
open Go.RowKit Go.Proofs.Ytiblkbkdfebfbaa.Own

abbrev B16 := BitVec 16
theorem xor_i64 (a b : Nat) (ha : a < 65536) (hb : b < 65536) : bits .xor .i64 (a : Int) (b : Int) = ((a ^^^ b : Nat) : Int) := by
  have hx : a ^^^ b < 2 ^ 16 := Nat.xor_lt_two_pow (by omega) (by omega)
  show IntKind.i64.wrap ((BitVec.ofInt 64 (a : Int) ^^^ BitVec.ofInt 64 (b : Int)).toNat : Int) = _
  rw [BitVec.toNat_xor, show BitVec.ofInt 64 (a : Int) = BitVec.ofNat 64 a from BitVec.ofInt_ofNat 64 a, show BitVec.ofInt 64 (b : Int) = BitVec.ofNat 64 b from BitVec.ofInt_ofNat 64 b,
    BitVec.toNat_ofNat, BitVec.toNat_ofNat, Nat.mod_eq_of_lt (by omega), Nat.mod_eq_of_lt (by omega), IntKind.wrap_i64]
  omega
theorem b16_lt (a : B16) : a.toNat < 65536 := a.isLt
theorem xor_b16 (a b : B16) : bits .xor .i64 (a.toNat : Int) (b.toNat : Int) = ((a ^^^ b).toNat : Int) := by
  rw [xor_i64 _ _ (b16_lt a) (b16_lt b), BitVec.toNat_xor]

/-- The product, not reduced. -/
def mulk (a b : B8) : Nat → B16
  | 0 => 0#16
  | k + 1 => mulk a b k ^^^ (if b.getLsbD k then (a.setWidth 16) <<< k else 0#16)
/-- Reduced, step by step. -/
def redk (p : B16) : Nat → B16
  | 0 => p
  | j + 1 => redk p j ^^^ (if (redk p j).getLsbD (14 - j) then 283#16 <<< (6 - j) else 0#16)
def tr (a b : B8) : B8 := (redk (mulk a b 8) 7).setWidth 8

theorem x4' (a b c d : B16) : (a ^^^ b) ^^^ (c ^^^ d) = (a ^^^ c) ^^^ (b ^^^ d) := by
  rw [BitVec.xor_assoc, BitVec.xor_assoc, ← BitVec.xor_assoc b c d, BitVec.xor_comm b c, BitVec.xor_assoc c b d]
theorem mulk_a (k : Nat) (a c b : B8) : mulk (a ^^^ c) b k = mulk a b k ^^^ mulk c b k := by
  induction k with
  | zero => simp [mulk]
  | succ k ih =>
    simp only [mulk]
    rw [ih, x4']
    congr 1
    cases b.getLsbD k
    · simp
    · simp only [if_true]
      rw [BitVec.setWidth_xor, BitVec.shiftLeft_xor_distrib]
theorem mulk_b (k : Nat) (a b c : B8) : mulk a (b ^^^ c) k = mulk a b k ^^^ mulk a c k := by
  induction k with
  | zero => simp [mulk]
  | succ k ih =>
    simp only [mulk]
    rw [ih, x4', BitVec.getLsbD_xor]
    congr 1
    cases b.getLsbD k <;> cases c.getLsbD k <;> simp
theorem redk_x (j : Nat) (p q : B16) : redk (p ^^^ q) j = redk p j ^^^ redk q j := by
  induction j with
  | zero => rfl
  | succ j ih =>
    simp only [redk]
    rw [ih, x4', BitVec.getLsbD_xor]
    congr 1
    cases (redk p j).getLsbD (14 - j) <;> cases (redk q j).getLsbD (14 - j) <;> simp
theorem tr_a (a c b : B8) : tr (a ^^^ c) b = tr a b ^^^ tr c b := by
  unfold tr
  rw [mulk_a, redk_x, BitVec.setWidth_xor]
theorem tr_b (a b c : B8) : tr a (b ^^^ c) = tr a b ^^^ tr a c := by
  unfold tr
  rw [mulk_b, redk_x, BitVec.setWidth_xor]
theorem tr_tm (a b : B8) : tr a b = tm a b := by
  refine lin_ext (fun a => tr a b) (fun a => tm a b) (fun x y => tr_a x y b) (fun x y => tm_a x y b) (fun i => ?_) a
  refine lin_ext (fun b => tr (1#8 <<< i.1) b) (fun b => tm (1#8 <<< i.1) b) (fun x y => tr_b _ x y) (fun x y => tm_b _ x y) (fun j => ?_) b
  have : ∀ i j : Fin 8, tr (1#8 <<< i.1) (1#8 <<< j.1) = tm (1#8 <<< i.1) (1#8 <<< j.1) := by decide +kernel
  exact this i j

theorem bit_at (x k : Nat) : ((((x : Int) / 2 ^ k).tmod 2 == 1) : Bool) = x.testBit k := by
  rw [show (x : Int) / 2 ^ k = ((x / 2 ^ k : Nat) : Int) by simp, Nat.testBit_eq_decide_div_mod_eq]
  generalize x / 2 ^ k = y
  rw [Int.tmod_eq_emod_of_nonneg (by omega)]
  by_cases h : y % 2 = 1
  · rw [decide_eq_true h]
    rw [show (y : Int) % 2 = 1 by omega]
    rfl
  · rw [decide_eq_false h]
    rw [show (y : Int) % 2 = 0 by omega]
    rfl
theorem shl_a (a : B8) (k : Nat) (h : k < 8) : wrap64 ((a.toNat : Int) * 2 ^ k) = (((a.setWidth 16) <<< k).toNat : Int) := by
  have ha := b8_lt a
  have h2 : a.toNat * 2 ^ k < 65536 := by
    have : 2 ^ k ≤ 2 ^ 7 := Nat.pow_le_pow_right (by omega) (by omega)
    have : a.toNat * 2 ^ k ≤ 255 * 2 ^ 7 := Nat.mul_le_mul (by omega) this
    omega
  rw [show (a.toNat : Int) * 2 ^ k = ((a.toNat * 2 ^ k : Nat) : Int) by simp, BitVec.toNat_shiftLeft, Nat.shiftLeft_eq, BitVec.toNat_setWidth, Nat.mod_eq_of_lt (by omega : a.toNat < 2 ^ 16), Nat.mod_eq_of_lt (by omega)]
  unfold wrap64
  omega

theorem shl_283 (m j : Nat) (h : m + j = 14) (hm : 8 ≤ m) : wrap64 (283 * 2 ^ (m - 8)) = ((283#16 <<< (6 - j)).toNat : Int) := by
  rw [show 6 - j = m - 8 by omega]
  have hk : m - 8 < 7 := by omega
  generalize m - 8 = k at *
  obtain rfl | rfl | rfl | rfl | rfl | rfl | rfl : k = 0 ∨ k = 1 ∨ k = 2 ∨ k = 3 ∨ k = 4 ∨ k = 5 ∨ k = 6 := by omega
  all_goals decide +kernel

theorem timesref_any (a b : B8) (w : World) : Calls Try.prog 12 #[.int .u8 (a.toNat : Int), .int .u8 (b.toNat : Int)] w fun e w' => e = .returned (.int .u8 ((tm a b).toNat : Int)) ∧ w = w' := by
  rw [← tr_tm]
  obtain ⟨T, hT⟩ : ∃ T, tr a b = T := ⟨_, rfl⟩
  rw [hT]
  have HT := Lib.hid hT
  clear hT
  have ha := b8_lt a
  have hb := b8_lt b
  go_enter Try.func12, Try.ntmps12
  go_wp2
  go_loop [5, 6] (fun p i => ∃ (k : Nat), k ≤ 8 ∧ p = .int .i64 ((mulk a b k).toNat : Int) ∧ i = .int .i64 (k : Int)) (fun _ i => 8 - (RowKit.intOf i).toNat)
  case atStart => exact ⟨0, by omega, rfl, rfl⟩
  case round =>
    obtain ⟨k, hk, rfl, rfl⟩ := hrel
    by_cases h8 : k < 8
    · have hk8 : (k : Int) < 8 := by omega
      have hbit := bit_at b.toNat k
      have hsh := shl_a a k h8
      have hx := xor_b16 (mulk a b k) ((a.setWidth 16) <<< k)
      have hm : mulk a b (k + 1) = mulk a b k ^^^ (if b.getLsbD k then (a.setWidth 16) <<< k else 0#16) := rfl
      have HM := Lib.hid hm
      have HS := Lib.hid hsh
      have HX := Lib.hid hx
      clear hsh hx
      by_cases hbk : b.getLsbD k = true
      · have hbb : b.toNat.testBit k = true := hbk
        rw [hbb] at hbit
        have HB := Lib.hid hbk
        clear hm hbk hbb
        go_wp2
        refine ⟨⟨k + 1, by omega, ?_, by go_num⟩, ?_⟩
        · rw [HM.out, HB.out, if_pos rfl, HS.out, HX.out]
        · simp [RowKit.intOf]
          omega
      · have hbk' : b.getLsbD k = false := by simpa using hbk
        have hbb : b.toNat.testBit k = false := hbk'
        rw [hbb] at hbit
        have HB := Lib.hid hbk'
        clear hm hbk hbk' hbb
        go_wp2
        refine ⟨⟨k + 1, by omega, ?_, by go_num⟩, ?_⟩
        · rw [HM.out, HB.out, if_neg (by simp), BitVec.xor_zero]
        · simp [RowKit.intOf]
          omega
    · obtain rfl : k = 8 := by omega
      clear h8 hk
      obtain ⟨P, hP⟩ : ∃ P, mulk a b 8 = P := ⟨_, rfl⟩
      have HP := Lib.hid hP
      rw [hP]
      clear hP
      go_wp2
      go_loop [5, 7] (fun p i => ∃ (j m : Nat), m + j = 14 ∧ j ≤ 7 ∧ p = .int .i64 ((redk P j).toNat : Int) ∧ i = .int .i64 (m : Int)) (fun _ i => (RowKit.intOf i).toNat)
      case atStart => exact ⟨0, 14, rfl, by omega, rfl, rfl⟩
      case round =>
        obtain ⟨j, m, hjm, hj, rfl, rfl⟩ := hrel
        by_cases h7 : j < 7
        · have hm8 : 8 ≤ m := by omega
          have hmI : 8 ≤ (m : Int) := by omega
          have hbit := bit_at (redk P j).toNat m
          have HS := Lib.hid (shl_283 m j hjm hm8)
          have HX := Lib.hid (xor_b16 (redk P j) (283#16 <<< (6 - j)))
          have hm : redk P (j + 1) = redk P j ^^^ (if (redk P j).getLsbD m then 283#16 <<< (6 - j) else 0#16) := by
            rw [show m = 14 - j by omega]
            rfl
          have HM := Lib.hid hm
          by_cases hbk : (redk P j).getLsbD m = true
          · have hbb : (redk P j).toNat.testBit m = true := hbk
            rw [hbb] at hbit
            have HB := Lib.hid hbk
            clear hm hbk hbb
            go_wp2
            refine ⟨⟨j + 1, m - 1, by omega, by omega, ?_, by congr 1; omega⟩, ?_⟩
            · rw [HM.out, HB.out, if_pos rfl, HS.out, HX.out]
            · simp [RowKit.intOf]
              omega
          · have hbk' : (redk P j).getLsbD m = false := by simpa using hbk
            have hbb : (redk P j).toNat.testBit m = false := hbk'
            rw [hbb] at hbit
            have HB := Lib.hid hbk'
            clear hm hbk hbk' hbb
            go_wp2
            refine ⟨⟨j + 1, m - 1, by omega, by omega, ?_, by congr 1; omega⟩, ?_⟩
            · rw [HM.out, HB.out, if_neg (by simp), BitVec.xor_zero]
            · simp [RowKit.intOf]
              omega
        · obtain rfl : j = 7 := by omega
          obtain rfl : m = 7 := by omega
          have hT : (redk P 7).setWidth 8 = T := by rw [← HT.out, ← HP.out]; rfl
          have hw : ((T.toNat : Nat) : Int) = ((redk P 7).toNat : Int) % 256 := by
            rw [← hT, BitVec.toNat_setWidth]
            omega
          have HW := Lib.hid hw
          clear hw hT h7 hj hjm
          go_wp2
          go_ret
          exact ⟨by rw [HW.out]; rfl, rfl⟩
end Go.Proofs.Ytiblkbkdfebfbaa.Aes
