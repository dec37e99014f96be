/- Bytes and Of, and the document's Bytes: contracts. The conditions: 64 bits; texts of whatever size. -/
import Derived.Test.YthpmhjlndnelfaaDoorMyPut8
namespace Go.Proofs.YthpmhjlndnelfaaDoor.Real
open Go.RowKit Go.Lib Go.Proofs.YthpmhjlndnelfaaDoorW.PrintWords Go.Proofs.YthpmhjlndnelfaaDoorW.PrintLast
open Go.Proofs.YthpmhjlndnelfaaDoor.Own

def enc (b : Nat) : Nat := if nan b then 0 else if sg b then 18446744073709551615 - b else b + 9223372036854775808
def dec (n : Nat) : Nat := if 9223372036854775808 ≤ n then n - 9223372036854775808 else if n = 0 then 9221120237041090561 else 18446744073709551615 - n

theorem enc_tk (b : Nat) (hb : b < 18446744073709551616) : nan b = false → (enc b : Int) = 9223372036854775808 + tk b := by
  intro h
  have hr := rg_le b
  unfold enc tk
  rw [h]
  unfold nan at h
  rw [decide_eq_false_iff_not] at h
  cases hs : sg b <;> unfold sg at hs <;> unfold rg at *
  · rw [decide_eq_false_iff_not] at hs
    simp only [if_false, Bool.false_eq_true]
    omega
  · rw [decide_eq_true_eq] at hs
    simp only [if_false, if_true, Bool.false_eq_true]
    omega

theorem enc_lt (b : Nat) (hb : b < 18446744073709551616) : enc b < 18446744073709551616 := by
  unfold enc sg
  split
  · omega
  · by_cases h : 9223372036854775808 ≤ b
    · rw [decide_eq_true h, if_pos rfl]; omega
    · rw [decide_eq_false h, if_neg (by simp)]; omega

theorem enc_cp (a b : Nat) (ha : a < 18446744073709551616) (hb : b < 18446744073709551616) : ci (enc a : Int) (enc b : Int) = cp a b := by
  have h1 := tk_cases a
  have h2 := tk_cases b
  have na := kd_nan a
  have nb := kd_nan b
  have ea := enc_tk a ha
  have eb := enc_tk b hb
  have za : nan a = true → enc a = 0 := fun h => by unfold enc; rw [if_pos h]
  have zb : nan b = true → enc b = 0 := fun h => by unfold enc; rw [if_pos h]
  have ta : nan a = true → tk a = -18446744073709551616 := fun h => by unfold tk; rw [if_pos h]
  have tb : nan b = true → tk b = -18446744073709551616 := fun h => by unfold tk; rw [if_pos h]
  unfold cp
  cases hna : nan a <;> cases hnb : nan b
  · have := ea hna
    have := eb hnb
    unfold ci
    split <;> split <;> (try split) <;> (try split) <;> omega
  · have e1 := ea hna
    have e2 := zb hnb
    have e3 := tb hnb
    have : kd a ≠ 0 := fun e => by rw [na.1 e] at hna; cases hna
    rw [ci_gt (by omega), ci_gt (by omega)]
  · have e1 := eb hnb
    have e2 := za hna
    have e3 := ta hna
    have : kd b ≠ 0 := fun e => by rw [nb.1 e] at hnb; cases hnb
    rw [ci_lt (by omega), ci_lt (by omega)]
  · rw [za hna, zb hnb, ta hna, tb hnb]
    rfl

theorem cmp_val (x y : List UInt8) (h : x.length = y.length) : Lib.compareBytes x y = ci (val x : Int) (val y : Int) := by
  induction x generalizing y with
  | nil =>
    cases y with
    | nil => rfl
    | cons b y => simp at h
  | cons a x ih =>
    cases y with
    | nil => simp at h
    | cons b y =>
      simp only [List.length_cons, Nat.add_right_cancel_iff] at h
      simp only [Lib.compareBytes]
      have hx := val_lt x
      have hy := val_lt y
      rw [ih y h, val_cons, val_cons, h]
      rw [h] at hx
      by_cases h1 : a.toNat < b.toNat
      · have := Nat.mul_le_mul_right (256 ^ y.length) (show a.toNat + 1 ≤ b.toNat by omega)
        rw [Nat.add_mul] at this
        rw [if_pos (UInt8.lt_iff_toNat_lt.2 h1), ci_lt (by omega)]
      · rw [if_neg (fun e => h1 (UInt8.lt_iff_toNat_lt.1 e))]
        by_cases h2 : b.toNat < a.toNat
        · have := Nat.mul_le_mul_right (256 ^ y.length) (show b.toNat + 1 ≤ a.toNat by omega)
          rw [Nat.add_mul] at this
          rw [if_pos (UInt8.lt_iff_toNat_lt.2 h2), ci_gt (by omega)]
        · rw [if_neg (fun e => h2 (UInt8.lt_iff_toNat_lt.1 e)), show a.toNat = b.toNat by omega]
          unfold ci
          split <;> split <;> (try split) <;> (try split) <;> omega

theorem compare8 (x y : Nat) (r : Int) (hx : x < 18446744073709551616) (hy : y < 18446744073709551616) (h : ci (x : Int) (y : Int) = r) (p q : ByteArray) (hp : P8 x = p) (hq : P8 y = q) (w : World) :
    Calls Tryd.prog 39 #[.string p, .string q] w fun e w' => e = .returned (.int .i64 r) ∧ w = w' := by
  subst hp
  subst hq
  refine (Tryd.strings_Compare _ _ w).mono fun _ _ ⟨h1, h2⟩ => ⟨?_, h2.symm⟩
  rw [h1, cmp_val _ _ (by rw [Array.length_toList, Array.length_toList]; exact (P8_size x).trans (P8_size y).symm), P8_val x hx, P8_val y hy, h]

theorem bnotm (b : Nat) (hb : b < 18446744073709551616) : Go.bits .xor .u64 IntKind.u64.max (b : Int) = ((18446744073709551615 - b : Nat) : Int) := by
  have e : IntKind.u64.max = 18446744073709551615 := by decide
  rw [e, bnot b hb]

theorem bytes_at (b : Nat) (t : ByteArray) (hb : b < 18446744073709551616) (ht : P8 (enc b) = t) (w : World) :
    Calls Tryd.prog 36 #[.float .f64 b] w fun e w' => e = .returned (.string t) ∧ Below w.heap.size w w' := by
  have c1 := isnan_any b hb
  have h69 := fun W => f69 b W
  have hand := band b hb
  unfold enc at ht
  cases hn : nan b
  · rw [hn] at c1 ht
    rw [if_neg (by simp)] at ht
    have C1 := Aside0.mk c1
    cases hs : sg b
    · rw [hs] at hand ht
      rw [if_neg (by simp)] at ht hand
      have hor := bor b (by unfold sg at hs; rw [decide_eq_false_iff_not] at hs; omega)
      obtain ⟨m, hm⟩ : ∃ m : Nat, b + 9223372036854775808 = m := ⟨_, rfl⟩
      rw [hm] at hor ht
      clear hm
      have HP := Aside0.mk (put8 _ t ht)
      clear c1 ht hn hs
      go_enter Tryd.func36, Tryd.ntmps36
      go_wp2_with (first
        | (go_at_call 27; refine (C1.out _).mono ?_; rintro e w' ⟨rfl, rfl⟩)
        | (go_at_call 68; refine (HP.out _).mono ?_; rintro e w' ⟨rfl, hb2⟩; have HB := Aside0.mk hb2; clear hb2))
      go_ret
      exact ⟨rfl, HB.out⟩
    · rw [hs] at hand ht
      rw [if_pos rfl] at ht hand
      have hnot := bnotm b hb
      obtain ⟨m, hm⟩ : ∃ m : Nat, 18446744073709551615 - b = m := ⟨_, rfl⟩
      rw [hm] at hnot ht
      have HP := Aside0.mk (put8 _ t ht)
      have HN := Aside0.mk hnot
      clear c1 ht hn hs hm hnot
      go_enter Tryd.func36, Tryd.ntmps36
      go_wp2_with (go_at_call 27; refine (C1.out _).mono ?_; rintro e w' ⟨rfl, rfl⟩)
      rw [HN.out]
      refine (HP.out _).mono ?_
      rintro e w' ⟨rfl, hb2⟩
      have HB := Aside0.mk hb2
      clear hb2
      go_wp2
      go_ret
      exact ⟨rfl, HB.out⟩
  · rw [hn] at c1 ht
    rw [if_pos rfl] at ht
    have C1 := Aside0.mk c1
    have HP := Aside0.mk (put8 0 t ht)
    clear c1 ht hn hand
    go_enter Tryd.func36, Tryd.ntmps36
    go_wp2_with (first
      | (go_at_call 27; refine (C1.out _).mono ?_; rintro e w' ⟨rfl, rfl⟩)
      | (go_at_call 68; refine (HP.out _).mono ?_; rintro e w' ⟨rfl, hb2⟩; have HB := Aside0.mk hb2; clear hb2))
    go_ret
    exact ⟨rfl, HB.out⟩

theorem rbytes_at (b : Nat) (t : ByteArray) (hb : b < 18446744073709551616) (ht : P8 (enc b) = t) (w : World) :
    Calls Tryd.prog 38 #[.float .f64 b] w fun e w' => e = .returned (.string t) ∧ Below w.heap.size w w' := by
  have c1 := t_nan b hb
  have h69 := fun W => f69 b W
  have hel := enc_lt b hb
  unfold enc at ht hel
  cases hn : nan b
  · rw [hn] at c1 ht hel
    rw [if_neg (by simp)] at ht hel
    cases hs : sg b
    · rw [hs] at ht hel
      rw [if_neg (by simp)] at ht hel
      have hlt : ¬ 9223372036854775808 ≤ b := by unfold sg at hs; rwa [decide_eq_false_iff_not] at hs
      have hge : decide ((b : Int) ≥ 9223372036854775808) = false := decide_eq_false (by omega)
      have hb0 : (b : Int) + 9223372036854775808 < 18446744073709551616 := by omega
      obtain ⟨m, hm⟩ : ∃ m : Nat, b + 9223372036854775808 = m := ⟨_, rfl⟩
      have hadd : (b : Int) + 9223372036854775808 = (m : Int) := by omega
      rw [hm] at hel ht
      have HP := Aside0.mk (rput8 _ t hel ht)
      clear hm hel
      clear ht hn hs
      go_enter Tryd.func38, Tryd.ntmps38
      go_wp2_with (go_at_call 71; refine (HP.out _).mono ?_; rintro e w' ⟨rfl, hb2⟩; have HB := Aside0.mk hb2; clear hb2)
      go_ret
      exact ⟨rfl, HB.out⟩
    · rw [hs] at ht hel
      rw [if_pos rfl] at ht hel
      have hlt : 9223372036854775808 ≤ b := by unfold sg at hs; rwa [decide_eq_true_eq] at hs
      have hge : decide ((b : Int) ≥ 9223372036854775808) = true := decide_eq_true (by omega)
      obtain ⟨m, hm⟩ : ∃ m : Nat, 18446744073709551615 - b = m := ⟨_, rfl⟩
      have hsub : 18446744073709551615 - (b : Int) = (m : Int) := by omega
      rw [hm] at hel ht
      have HP := Aside0.mk (rput8 _ t hel ht)
      clear hm hel
      clear ht hn hs
      go_enter Tryd.func38, Tryd.ntmps38
      go_wp2_with (go_at_call 71; refine (HP.out _).mono ?_; rintro e w' ⟨rfl, hb2⟩; have HB := Aside0.mk hb2; clear hb2)
      go_ret
      exact ⟨rfl, HB.out⟩
  · rw [hn] at c1 ht
    rw [if_pos rfl] at ht
    have HP := Aside0.mk (rput8 0 t (by omega) ht)
    clear ht hn hel
    go_enter Tryd.func38, Tryd.ntmps38
    go_wp2_with (go_at_call 71; refine (HP.out _).mono ?_; rintro e w' ⟨rfl, hb2⟩; have HB := Aside0.mk hb2; clear hb2)
    go_ret
    exact ⟨rfl, HB.out⟩
end Go.Proofs.YthpmhjlndnelfaaDoor.Real
