/- The document's Sub: its contract. No conditions. -/
import Derived.Test.YtiblkbkdfebfbaaMyTimesRef
import Derived.StillTactics
import Derived.Tactics
namespace Go.Proofs.Ytiblkbkdfebfbaa.Aes
open Go.RowKit Go.Proofs.Ytiblkbkdfebfbaa.Own

def sqs (a : B8) : Nat → B8
  | 0 => a
  | k + 1 => tm (sqs a k) (sqs a k)
def pws (a : B8) : Nat → B8
  | 0 => 1#8
  | k + 1 => tm (pws a k) (sqs a (k + 1))
/-- The bits, one by one. -/
def bitk (c k : Nat) : Nat := (c / 2 ^ k + c / 2 ^ ((k + 4) % 8) + c / 2 ^ ((k + 5) % 8) + c / 2 ^ ((k + 6) % 8) + c / 2 ^ ((k + 7) % 8) + 99 / 2 ^ k) % 2
def outk (c : Nat) : Nat → Nat
  | 0 => 0
  | k + 1 => outk c k + bitk c k * 2 ^ k
theorem outk_lt (c k : Nat) : outk c k < 2 ^ k := by
  induction k with
  | zero => simp [outk]
  | succ k ih =>
    simp only [outk]
    have : bitk c k ≤ 1 := by unfold bitk; omega
    have h2 : bitk c k * 2 ^ k ≤ 1 * 2 ^ k := Nat.mul_le_mul_right _ this
    rw [Nat.pow_succ]
    omega
def sub (a : B8) : B8 := BitVec.ofNat 8 (outk (pws a 7).toNat 8)

theorem wrap_sm (n : Int) (h0 : 0 ≤ n) (h1 : n < 100000) : IntKind.i64.wrap n = n := by
  rw [IntKind.wrap_i64]
  omega

theorem wrap_two (x y : Nat) (hx : x < 256) (hy : y < 256) : IntKind.i64.wrap ((x : Int) + y) = (x : Int) + y := wrap_sm _ (by omega) (by omega)

set_option maxRecDepth 30000 in
set_option maxHeartbeats 4000000 in
theorem sub_any (a : B8) (w : World) : Calls Try.prog 20 #[.int .u8 (a.toNat : Int)] w fun e w' => e = .returned (.int .u8 ((sub a).toNat : Int)) ∧ Below w.heap.size w w' := by
  obtain ⟨T, hT⟩ : ∃ T, sub a = T := ⟨_, rfl⟩
  rw [hT]
  have HT := Lib.hid hT
  clear hT
  go_enter Try.func20, Try.ntmps20
  go_wp2
  go_loop [3, 4, 5] (fun p s i => ∃ (k : Nat), k ≤ 7 ∧ p = .int .u8 ((pws a k).toNat : Int) ∧ s = .int .u8 ((sqs a k).toNat : Int) ∧ i = .int .i64 ((k + 1 : Nat) : Int)) (fun _ _ i => 8 - (RowKit.intOf i).toNat)
  case atStart => exact ⟨0, by omega, rfl, rfl, rfl⟩
  case round =>
    obtain ⟨k, hk, rfl, rfl, rfl⟩ := hrel
    by_cases h7 : k < 7
    · have hk7 : ((k + 1 : Nat) : Int) < 8 := by omega
      have t1 := fun w => timesref_any (sqs a k) (sqs a k) w
      have t2 := fun w => timesref_any (pws a k) (sqs a (k + 1)) w
      have e1 : tm (sqs a k) (sqs a k) = sqs a (k + 1) := rfl
      have e2 : tm (pws a k) (sqs a (k + 1)) = pws a (k + 1) := rfl
      rw [e1] at t1
      rw [e2] at t2
      have T1 := Lib.hid t1
      have T2 := Lib.hid t2
      clear e1 e2 t1 t2
      go_wp2_with (first
        | ((go_at_call 12; with_reducible refine (T1.out _).mono ?_); rintro e w' ⟨rfl, rfl⟩)
        | ((go_at_call 12; with_reducible refine (T2.out _).mono ?_); rintro e w' ⟨rfl, rfl⟩))
      refine ⟨⟨k + 1, by omega, rfl, rfl, by go_num⟩, ?_⟩
      simp [RowKit.intOf]
      omega
    · obtain rfl : k = 7 := by omega
      obtain ⟨C, hC⟩ : ∃ C, pws a 7 = C := ⟨_, rfl⟩
      have HC := Lib.hid hC
      rw [hC]
      clear hC h7 hk
      have hc := b8_lt C
      go_wp2
      go_loopw [7, 8] (fun o i wr => ∃ (k : Nat), k ≤ 8 ∧ o = .int .i64 ((outk C.toNat k : Nat) : Int) ∧ i = .int .i64 (k : Int) ∧ Below w.heap.size w wr) (fun _ i _ => 8 - (RowKit.intOf i).toNat)
      case atStart => exact ⟨0, by omega, rfl, rfl, Below.refl _ _⟩
      case round =>
        obtain ⟨k, hk, rfl, rfl, hb⟩ := hrel
        by_cases h8 : k < 8
        · have HB := Lib.hid hb
          have ho := outk_lt C.toNat k
          have hn : outk C.toNat (k + 1) = outk C.toNat k + bitk C.toNat k * 2 ^ k := rfl
          have HN := Lib.hid hn
          clear hn hb
          generalize outk C.toNat k = O at *
          generalize C.toNat = c at *
          have hk8 : (k : Int) < 8 := by omega
          have e4 : ((k : Int) + 4).tmod 8 = (((k + 4) % 8 : Nat) : Int) := by
            rw [Int.tmod_eq_emod_of_nonneg (by omega)]
            omega
          have e5 : ((k : Int) + 5).tmod 8 = (((k + 5) % 8 : Nat) : Int) := by
            rw [Int.tmod_eq_emod_of_nonneg (by omega)]
            omega
          have e6 : ((k : Int) + 6).tmod 8 = (((k + 6) % 8 : Nat) : Int) := by
            rw [Int.tmod_eq_emod_of_nonneg (by omega)]
            omega
          have e7 : ((k : Int) + 7).tmod 8 = (((k + 7) % 8 : Nat) : Int) := by
            rw [Int.tmod_eq_emod_of_nonneg (by omega)]
            omega
          have hbk : bitk c k = (c / 2 ^ k + c / 2 ^ ((k + 4) % 8) + c / 2 ^ ((k + 5) % 8) + c / 2 ^ ((k + 6) % 8) + c / 2 ^ ((k + 7) % 8) + 99 / 2 ^ k) % 2 := rfl
          have m4 : min ((k + 4) % 8) 64 = (k + 4) % 8 := by omega
          have m5 : min ((k + 5) % 8) 64 = (k + 5) % 8 := by omega
          have m6 : min ((k + 6) % 8) 64 = (k + 6) % 8 := by omega
          have m7 : min ((k + 7) % 8) 64 = (k + 7) % 8 := by omega
          generalize (k + 4) % 8 = q4 at *
          generalize (k + 5) % 8 = q5 at *
          generalize (k + 6) % 8 = q6 at *
          generalize (k + 7) % 8 = q7 at *
          have dv : ∀ q : Nat, (c : Int) / 2 ^ q = ((c / 2 ^ q : Nat) : Int) := fun q => by simp
          have dl : ∀ q : Nat, c / 2 ^ q ≤ c := fun q => Nat.div_le_self _ _
          have d9 : (99 : Int) / 2 ^ k = ((99 / 2 ^ k : Nat) : Int) := by simp
          have l9 : 99 / 2 ^ k ≤ 99 := Nat.div_le_self _ _
          have v0 := dv k
          have v4 := dv q4
          have v5 := dv q5
          have v6 := dv q6
          have v7 := dv q7
          have l0 := dl k
          have l4 := dl q4
          have l5 := dl q5
          have l6 := dl q6
          have l7 := dl q7
          clear dv dl
          generalize c / 2 ^ k = x0 at *
          generalize c / 2 ^ q4 = x4 at *
          generalize c / 2 ^ q5 = x5 at *
          generalize c / 2 ^ q6 = x6 at *
          generalize c / 2 ^ q7 = x7 at *
          generalize 99 / 2 ^ k = x9 at *
          have hbt : ((x0 : Int) + x4 + x5 + x6 + x7 + x9).tmod 2 = ((bitk c k : Nat) : Int) := by
            rw [hbk, Int.tmod_eq_emod_of_nonneg (by omega)]
            omega
          have hB1 : bitk c k ≤ 1 := by omega
          have hY : bitk c k * 2 ^ k < 256 := by
            have h2 : bitk c k * 2 ^ k ≤ 1 * 2 ^ 7 := Nat.mul_le_mul hB1 (Nat.pow_le_pow_right (by omega) (by omega))
            omega
          have hsh : wrap64 (((bitk c k : Nat) : Int) * 2 ^ k) = ((bitk c k * 2 ^ k : Nat) : Int) := by
            rw [show ((bitk c k : Nat) : Int) * 2 ^ k = ((bitk c k * 2 ^ k : Nat) : Int) by simp]
            unfold wrap64
            omega
          have hO : O < 256 := Nat.lt_of_lt_of_le ho (Nat.pow_le_pow_right (by omega : 0 < 2) (by omega : k ≤ 8))
          clear hbk ho
          generalize bitk c k = B at *
          generalize B * 2 ^ k = Y at *
          have sO : IntKind.i64.wrap ((O : Int) + Y) = (O : Int) + Y := wrap_two O Y hO hY
          have w4 : IntKind.i64.wrap ((k : Int) + 4) = (k : Int) + 4 := wrap_sm _ (by omega) (by omega)
          have w5 : IntKind.i64.wrap ((k : Int) + 5) = (k : Int) + 5 := wrap_sm _ (by omega) (by omega)
          have w6 : IntKind.i64.wrap ((k : Int) + 6) = (k : Int) + 6 := wrap_sm _ (by omega) (by omega)
          have w7 : IntKind.i64.wrap ((k : Int) + 7) = (k : Int) + 7 := wrap_sm _ (by omega) (by omega)
          have s4 : IntKind.i64.wrap ((x0 : Int) + x4) = (x0 : Int) + x4 := wrap_sm _ (by omega) (by omega)
          have s5 : IntKind.i64.wrap ((x0 : Int) + x4 + x5) = (x0 : Int) + x4 + x5 := wrap_sm _ (by omega) (by omega)
          have s6 : IntKind.i64.wrap ((x0 : Int) + x4 + x5 + x6) = (x0 : Int) + x4 + x5 + x6 := wrap_sm _ (by omega) (by omega)
          have s7 : IntKind.i64.wrap ((x0 : Int) + x4 + x5 + x6 + x7) = (x0 : Int) + x4 + x5 + x6 + x7 := wrap_sm _ (by omega) (by omega)
          have s9 : IntKind.i64.wrap ((x0 : Int) + x4 + x5 + x6 + x7 + x9) = (x0 : Int) + x4 + x5 + x6 + x7 + x9 := wrap_sm _ (by omega) (by omega)
          go_wp2
          have hm : Try.prog.follows .mixedOrders = true := by kernel_rfl
          go_still hm
          go_wp2
          refine ⟨⟨k + 1, Nat.succ_le_of_lt h8, by rw [HN.out]; rfl, by go_num, HB.out.drew⟩, ?_⟩
          simp [RowKit.intOf]
          clear w4 w5 w6 w7 s4 s5 s6 s7 s9 sO hsh hbt e4 e5 e6 e7 v0 v4 v5 v6 v7 d9
          omega
        · obtain rfl : k = 8 := by omega
          have hT : BitVec.ofNat 8 (outk C.toNat 8) = T := by rw [← HT.out, ← HC.out]; rfl
          have hw : ((T.toNat : Nat) : Int) = ((outk C.toNat 8 : Nat) : Int) % 256 := by
            rw [← hT, BitVec.toNat_ofNat]
            omega
          have HW := Lib.hid hw
          have HB := Lib.hid hb
          clear hw hT hb h8 hk
          go_wp2
          go_ret
          exact ⟨by rw [HW.out]; rfl, HB.out⟩
end Go.Proofs.Ytiblkbkdfebfbaa.Aes
