/- Times: its contract. No conditions. -/
import Derived.Test.YtiblkbkdfebfbaaProg
import Derived.Test.YtiblkbkdfebfbaaOwnField
import Derived.WalkKit
import Derived.Laws.BitsAllLaws
import Derived.WalkLawsBesides
import Derived.Lib.Hide
namespace Go.Proofs.Ytiblkbkdfebfbaa.Aes
open Go.RowKit Go.Proofs.Ytiblkbkdfebfbaa.Own

theorem b8_lt (a : B8) : a.toNat < 256 := a.isLt

theorem xor_b8 (a b : B8) : Go.bits .xor .u8 (a.toNat : Int) (b.toNat : Int) = ((a ^^^ b).toNat : Int) := by
  rw [u8_xor_nat _ _ (b8_lt a) (b8_lt b), BitVec.toNat_xor]

theorem xt_nat (a : B8) : Go.bits .xor .u8 ((a.toNat : Int) * 2 % 256) ((a.toNat : Int) / 128 * 27) = ((xt a).toNat : Int) := by
  have ha := b8_lt a
  have e1 : (a.toNat : Int) * 2 % 256 = ((a <<< 1).toNat : Int) := by
    rw [BitVec.toNat_shiftLeft, Nat.shiftLeft_eq]
    omega
  have e2 : (a.toNat : Int) / 128 * 27 = ((if a.msb then 27#8 else 0#8).toNat : Int) := by
    rw [BitVec.msb_eq_decide]
    by_cases h : 128 ≤ a.toNat
    · rw [decide_eq_true h]
      have : (a.toNat : Int) / 128 = 1 := by omega
      rw [this]
      rfl
    · rw [decide_eq_false h]
      have : (a.toNat : Int) / 128 = 0 := by omega
      rw [this]
      rfl
  have e3 := xor_b8 (a <<< 1) (if a.msb then 27#8 else 0#8)
  rw [← e1, ← e2] at e3
  exact e3

theorem half_nat (b : B8) : ((b >>> 1).toNat : Int) = (b.toNat : Int) / 2 := by
  rw [BitVec.toNat_ushiftRight, Nat.shiftRight_eq_div_pow]
  omega

theorem low_bit (b : B8) : b.getLsbD 0 = decide (b.toNat % 2 = 1) := by
  rw [BitVec.getLsbD, Nat.testBit_zero]

theorem and_one (d : B8) : Go.bits .and .u8 (d.toNat : Int) 1 = ((d.toNat % 2 : Nat) : Int) := by
  have h := (bits_nat .u8 8 (by decide) (fun n h0 h1 => by rw [IntKind.wrap_u8]; omega) d.toNat 1 (b8_lt d) (by omega)).1
  have h' : Go.bits .and .u8 (d.toNat : Int) 1 = ((d.toNat &&& 1 : Nat) : Int) := h
  rw [h', Nat.and_one_is_mod]

theorem gs_done (k : Nat) (a b : B8) (h : b.toNat = 0) : gs k a b = 0#8 := by
  have : b = 0#8 := BitVec.eq_of_toNat_eq (by rw [h]; rfl)
  rw [this, gs_zero]

theorem times_any (a b : B8) (w : World) : Calls Try.prog 11 #[.int .u8 (a.toNat : Int), .int .u8 (b.toNat : Int)] w fun e w' => e = .returned (.int .u8 ((tm a b).toNat : Int)) ∧ w = w' := by
  have hb := b8_lt b
  go_enter Try.func11, Try.ntmps11
  go_wp2
  go_loop [0, 1, 5] (fun x y p => ∃ (k : Nat) (c d r : B8), x = .int .u8 (c.toNat : Int) ∧ y = .int .u8 (d.toNat : Int) ∧ p = .int .u8 (r.toNat : Int) ∧ d.toNat < 2 ^ k ∧ k ≤ 8 ∧ r ^^^ gs k c d = tm a b) (fun _ y _ => (RowKit.intOf y).toNat)
  case atStart => exact ⟨8, a, b, 0#8, rfl, rfl, rfl, hb, Nat.le_refl _, by rw [BitVec.zero_xor]; rfl⟩
  case round =>
    obtain ⟨k, c, d, r, rfl, rfl, rfl, hk, hk8, hx⟩ := hrel
    have hc := b8_lt c
    have hd := b8_lt d
    have hr := b8_lt r
    by_cases h0 : d.toNat = 0
    · rw [gs_done k c d h0, BitVec.xor_zero] at hx
      subst hx
      go_wp2
      go_ret
      exact ⟨rfl, rfl⟩
    · have hpos : 0 < d.toNat := Nat.pos_of_ne_zero h0
      obtain ⟨j, rfl⟩ : ∃ j, k = j + 1 := ⟨k - 1, by
        rcases Nat.eq_zero_or_pos k with rfl | h
        · simp at hk; omega
        · omega⟩
      have hg : gs (j + 1) c d = (if d.getLsbD 0 then c else 0#8) ^^^ gs j (xt c) (d >>> 1) := rfl
      rw [hg, low_bit] at hx
      have hh := half_nat d
      have hh2 : (d >>> 1).toNat < 2 ^ j := by
        rw [Nat.pow_succ] at hk
        omega
      have XT := Lib.hid (xt_nat c)
      have XB := Lib.hid (xor_b8 r c)
      have HH := Lib.hid hh
      clear hh hg
      by_cases hbit : d.toNat % 2 = 1
      · rw [decide_eq_true hbit, if_pos rfl, ← BitVec.xor_assoc] at hx
        have HX := Lib.hid hx
        have hbb : Go.bits .and .u8 (d.toNat : Int) 1 = 1 := by rw [and_one, hbit]; rfl
        clear hx
        go_wp2
        refine ⟨⟨j, xt c, d >>> 1, r ^^^ c, by rw [XT.out], by rw [HH.out], by rw [XB.out], hh2, by omega, HX.out⟩, ?_⟩
        simp [RowKit.intOf]
        omega
      · rw [decide_eq_false hbit, if_neg (by simp), BitVec.zero_xor] at hx
        have hbit0 : d.toNat % 2 = 0 := by omega
        have HX := Lib.hid hx
        have hbb : Go.bits .and .u8 (d.toNat : Int) 1 = 0 := by rw [and_one, hbit0]; rfl
        clear hx
        go_wp2
        refine ⟨⟨j, xt c, d >>> 1, r, by rw [XT.out], by rw [HH.out], rfl, hh2, by omega, HX.out⟩, ?_⟩
        simp [RowKit.intOf]
        omega
end Go.Proofs.Ytiblkbkdfebfbaa.Aes
