/- The scaled product and its small helpers: contracts. No conditions. -/
import Derived.Test.YtjniglmijikojaaGreatDoorGMyShelf
import Derived.Test.YtjniglmijikojaaGreatDoorGOwnFarey
import Derived.Test.YtjniglmijikojaaGreatDoorGOwnPairs
import Derived.WalkKit
import Derived.BigCall
import Derived.BigGuard
import Derived.WalkLawsBesides
import Derived.Laws.BitsAllLaws
import Derived.Below
namespace Go.Proofs.YtjniglmijikojaaGreatDoor.Text
open Go.RowKit Go.Lib Go.Proofs.YtjniglmijikojaaGreatDoor.Own

structure Aside0 (p : Prop) : Prop where
  out : p

theorem wrap_u (n : Int) (h0 : 0 ≤ n) (h1 : n < 18446744073709551616) : IntKind.u64.wrap n = n := by
  rw [IntKind.wrap_u64]
  omega
theorem wrap_i (n : Int) (h0 : -9223372036854775808 ≤ n) (h1 : n < 9223372036854775808) : IntKind.i64.wrap n = n := by
  rw [IntKind.wrap_i64]
  omega

theorem nudge_0 (u : Nat) (hu : u < 9223372036854775808) (w : World) : Calls Tryz.prog 65 #[.int .u64 (u : Int), .int .i64 0] w fun e w' => e = .returned (.int .u64 (u : Int)) ∧ w = w' := by
  go_enter Tryz.func65, Tryz.ntmps65
  go_wp2
  go_ret
  exact ⟨rfl, rfl⟩
theorem nudge_1 (u : Nat) (hu : u < 9223372036854775808) (w : World) : Calls Tryz.prog 65 #[.int .u64 (u : Int), .int .i64 1] w fun e w' => e = .returned (.int .u64 ((u + 1 : Nat) : Int)) ∧ w = w' := by
  go_enter Tryz.func65, Tryz.ntmps65
  go_wp2
  go_ret
  exact ⟨rfl, rfl⟩
theorem nudge_m (u : Nat) (hu : u < 9223372036854775808) (hu0 : 0 < u) (w : World) : Calls Tryz.prog 65 #[.int .u64 (u : Int), .int .i64 (-1)] w fun e w' => e = .returned (.int .u64 ((u - 1 : Nat) : Int)) ∧ w = w' := by
  go_enter Tryz.func65, Tryz.ntmps65
  go_wp2
  go_ret
  refine ⟨?_, rfl⟩
  have e1 : IntKind.u64.wrap ((u : Int) + IntKind.u64.wrap (-1)) = ((u - 1 : Nat) : Int) := by
    rw [IntKind.wrap_u64, IntKind.wrap_u64]
    omega
  rw [← e1]
  rfl
theorem ceil_any (u : Nat) (hu : u < 9223372036854775808) (w : World) : Calls Tryz.prog 66 #[.int .u64 (u : Int)] w fun e w' => e = .returned (.int .u64 (((u + 3) / 4 : Nat) : Int)) ∧ w = w' := by
  go_enter Tryz.func66, Tryz.ntmps66
  go_wp2
  go_ret
  exact ⟨rfl, rfl⟩
theorem floor_any (u : Nat) (hu : u < 9223372036854775808) (w : World) : Calls Tryz.prog 67 #[.int .u64 (u : Int)] w fun e w' => e = .returned (.int .u64 ((u / 4 : Nat) : Int)) ∧ w = w' := by
  go_enter Tryz.func67, Tryz.ntmps67
  go_wp2
  go_ret
  exact ⟨rfl, rfl⟩
theorem round_any (u : Nat) (hu : u < 9223372036854775808) (w : World) : Calls Tryz.prog 68 #[.int .u64 (u : Int)] w fun e w' => e = .returned (.int .u64 ((rnd u : Nat) : Int)) ∧ w = w' := by
  go_enter Tryz.func68, Tryz.ntmps68
  go_wp2
  go_ret
  refine ⟨?_, rfl⟩
  have e1 : bits .and .u64 ((u : Int) / 4) 1 = ((u / 4 % 2 : Nat) : Int) := by
    rw [show (u : Int) / 4 = ((u / 4 : Nat) : Int) by simp]
    have h := (bits_nat .u64 64 (by decide) (fun n h0 h1 => by rw [IntKind.wrap_u64]; omega) (u / 4) 1 (by omega) (by omega)).1
    have h' : bits .and .u64 ((u / 4 : Nat) : Int) 1 = ((u / 4 &&& 1 : Nat) : Int) := h
    rw [h', Nat.and_one_is_mod]
  show Ending.returned (Value.int .u64 (IntKind.u64.wrap ((u : Int) + 1 + bits .and .u64 ((u : Int) / 4) 1) / 4)) = _
  rw [e1, wrap_u _ (by omega) (by omega)]
  unfold rnd
  congr 2
theorem skewed_any (e : Int) (he : -2000 ≤ e ∧ e ≤ 2000) (w : World) : Calls Tryz.prog 61 #[.int .i64 e] w fun e' w' => e' = .returned (.int .i64 (Own.skw e)) ∧ w = w' := by
  go_enter Tryz.func61, Tryz.ntmps61
  go_wp2
  go_ret
  exact ⟨rfl, rfl⟩
theorem l2_any (e : Int) (he : -2000 ≤ e ∧ e ≤ 2000) (w : World) : Calls Tryz.prog 63 #[.int .i64 e] w fun e' w' => e' = .returned (.int .i64 (Own.l2 e)) ∧ w = w' := by
  go_enter Tryz.func63, Tryz.ntmps63
  go_wp2
  go_ret
  exact ⟨rfl, rfl⟩
theorem l10_any (e : Int) (he : -2000 ≤ e ∧ e ≤ 2000) (w : World) : Calls Tryz.prog 47 #[.int .i64 e] w fun e' w' => e' = .returned (.int .i64 (Own.l10 e)) ∧ w = w' := by
  go_enter Tryz.func47, Tryz.ntmps47
  go_wp2
  go_ret
  exact ⟨rfl, rfl⟩
theorem unmin_53 (w : World) : Calls Tryz.prog 71 #[.int .u64 9007199254740992] w fun e w' => e = .returned (.int .u64 36028797018963966) ∧ w = w' := by
  go_enter Tryz.func71, Tryz.ntmps71
  go_wp2
  go_ret
  exact ⟨rfl, rfl⟩
theorem b2u (b : Bool) (w : World) : Calls Tryz.prog 88 #[.bool b] w fun e w' => e = .returned (.int .u64 (if b then 1 else 0)) ∧ w = w' := by
  cases b
  · go_enter Tryz.func88, Tryz.ntmps88
    go_wp2
    go_ret
    exact ⟨rfl, rfl⟩
  · go_enter Tryz.func88, Tryz.ntmps88
    go_wp2
    go_ret
    exact ⟨rfl, rfl⟩
theorem b2n (b : Bool) (w : World) : Calls Tryz.prog 96 #[.bool b] w fun e w' => e = .returned (.int .u64 (if b then 1 else 0)) ∧ w = w' := by
  cases b
  · go_enter Tryz.func96, Tryz.ntmps96
    go_wp2
    go_ret
    exact ⟨rfl, rfl⟩
  · go_enter Tryz.func96, Tryz.ntmps96
    go_wp2
    go_ret
    exact ⟨rfl, rfl⟩

theorem and63 : ∀ s : Fin 64, bits .and .i64 (s.1 : Int) 63 = (s.1 : Int) := by decide +kernel
theorem or_u (a b : Nat) (ha : a < 18446744073709551616) (hb : b < 18446744073709551616) : bits .or .u64 (a : Int) (b : Int) = ((a ||| b : Nat) : Int) :=
  (bits_nat .u64 64 (by decide) (fun n h0 h1 => by rw [IntKind.wrap_u64]; omega) a b (by omega) (by omega)).2

theorem b2u_t (w : World) : Calls Tryz.prog 88 #[.bool true] w fun e w' => e = .returned (.int .u64 1) ∧ w = w' := b2u true w
theorem b2u_f (w : World) : Calls Tryz.prog 88 #[.bool false] w fun e w' => e = .returned (.int .u64 0) ∧ w = w' := b2u false w
set_option maxHeartbeats 2000000 in
theorem uscale_any (hi lo s x g : Nat) (w : World) (hhi : hi < 18446744073709551616) (hlo : lo < 18446744073709551616) (hs : s < 64) (hx : x < 18446744073709551616) (hp : 0 < x * hi / 18446744073709551616)
    (hg : w.heap[g]? = some (.cells #[.int .u64 (hi : Int), .int .u64 (lo : Int), .int .i64 (s : Int)] 96 (0, 0))) :
    Calls Tryz.prog 64 #[.int .u64 (x : Int), .pointer (some ⟨g, 0, none⟩)] w fun e w' => e = .returned (.int .u64 ((usc hi lo s x : Nat) : Int)) ∧ Below w.heap.size w w' := by
  have c0 : w.cell? ⟨g, 0, none⟩ = some (.int .u64 (hi : Int)) := by simp [World.cell?, hg]
  have c1 : w.cell? ⟨g, 1, none⟩ = some (.int .u64 (lo : Int)) := by simp [World.cell?, hg]
  have c2 : w.cell? ⟨g, 2, none⟩ = some (.int .i64 (s : Int)) := by simp [World.cell?, hg]
  have M1 := Aside0.mk (Tryz.bits_Mul64 x hi hx hhi)
  have M2 := Aside0.mk (Tryz.bits_Mul64 x lo hx hlo)
  have h63 := and63 ⟨s, hs⟩
  have BT := Aside0.mk b2u_t
  have BF := Aside0.mk b2u_f
  have hhl : x * hi / 18446744073709551616 < 18446744073709551616 := by
    apply Nat.div_lt_of_lt_mul
    exact Nat.mul_lt_mul_of_lt_of_lt hx hhi
  have hkl : x * lo / 18446744073709551616 < 18446744073709551616 := by
    apply Nat.div_lt_of_lt_mul
    exact Nat.mul_lt_mul_of_lt_of_lt hx hlo
  have hml := Nat.mod_lt (x * hi) (show 0 < 18446744073709551616 by decide)
  clear hg
  unfold usc
  generalize x * hi / 18446744073709551616 = h at *
  generalize x * hi % 18446744073709551616 = m at *
  generalize x * lo / 18446744073709551616 = k at *
  generalize x * lo % 18446744073709551616 = f at *
  have hY : 0 < 2 ^ s := Nat.pow_pos (by omega)
  have q1 : (h : Int) / 2 ^ s = ((h / 2 ^ s : Nat) : Int) := by simp
  have q3 : ((h / 2 ^ s : Nat) : Int) * 2 ^ s = ((h / 2 ^ s * 2 ^ s : Nat) : Int) := by simp
  have qle : h / 2 ^ s * 2 ^ s ≤ h := Nat.div_mul_le_self h (2 ^ s)
  have q2 : IntKind.u64.wrap (((h / 2 ^ s : Nat) : Int) * 2 ^ s) = ((h / 2 ^ s * 2 ^ s : Nat) : Int) := by
    rw [q3]
    exact wrap_u _ (by omega) (by omega)
  have hdm := Nat.div_add_mod h (2 ^ s)
  rw [Nat.mul_comm] at hdm
  have qd : h / 2 ^ s ≤ h := Nat.div_le_self _ _
  have qd1 : ∀ n, n ≤ h → n / 2 ^ s < 18446744073709551616 := fun n hn => Nat.lt_of_le_of_lt (Nat.div_le_self _ _) (by omega)
  have qc : ∀ n : Nat, (n : Int) / 2 ^ s = ((n / 2 ^ s : Nat) : Int) := fun n => by simp
  have o1 : ∀ n, n ≤ h → bits .or .u64 ((n / 2 ^ s : Nat) : Int) 1 = ((n / 2 ^ s ||| 1 : Nat) : Int) := fun n hn => or_u (n / 2 ^ s) 1 (qd1 n hn) (by omega)
  have o0 : ∀ n, n ≤ h → bits .or .u64 ((n / 2 ^ s : Nat) : Int) 0 = ((n / 2 ^ s ||| 0 : Nat) : Int) := fun n hn => or_u (n / 2 ^ s) 0 (qd1 n hn) (by omega)
  by_cases hz : h % 2 ^ s = 0
  · rw [if_neg (by omega)]
    have ne : (((h / 2 ^ s * 2 ^ s : Nat) : Int) != (h : Int)) = false := by
      rw [show h / 2 ^ s * 2 ^ s = h by omega]
      simp
    by_cases hmk : m < k
    · rw [if_pos hmk]
      by_cases hgt1 : (m + 18446744073709551616 - k) % 18446744073709551616 > 1
      · rw [if_pos hgt1]
        have cmk : decide ((m : Int) < (k : Int)) = true := decide_eq_true (by omega)
        have cmk2 : decide (m < k) = true := decide_eq_true hmk
        have hsub : IntKind.u64.wrap ((h : Int) - 1) = ((h - 1 : Nat) : Int) := (wrap_u _ (by omega) (by omega)).trans (by omega)
        have hgt : decide (1 < IntKind.u64.wrap ((m : Int) - (k : Int))) = true := by
          rw [IntKind.wrap_u64]
          exact decide_eq_true (by omega)
        have htc := qc (h - 1)
        have hor := o1 (h - 1) (by omega)
        clear o0 o1 qc qd1 hdm qle q3 hz hY hmk hgt1 qd hml hhl hkl hp
        generalize (h - 1) / 2 ^ s ||| 1 = R at *
        generalize h / 2 ^ s * 2 ^ s = QQ at *
        generalize h / 2 ^ s = Q at *
        generalize (h - 1) / 2 ^ s = Qt at *
        generalize h - 1 = t at *
        go_enter Tryz.func64, Tryz.ntmps64
        go_wp2_with (first
          | (go_at_call 95; with_reducible refine (M1.out _).mono ?_; rintro e w' ⟨rfl, rfl⟩)
          | (go_at_call 95; with_reducible refine (M2.out _).mono ?_; rintro e w' ⟨rfl, rfl⟩)
          | (go_at_call 88; with_reducible refine (BT.out _).mono ?_; rintro e w' ⟨rfl, rfl⟩)
          | (go_at_call 88; with_reducible refine (BF.out _).mono ?_; rintro e w' ⟨rfl, rfl⟩))
        go_region_with (first
          | (go_at_call 88; with_reducible refine (BT.out _).mono ?_; rintro e w' ⟨rfl, rfl⟩)
          | (go_at_call 88; with_reducible refine (BF.out _).mono ?_; rintro e w' ⟨rfl, rfl⟩))
        all_goals
          go_wp2
          go_ret
          exact ⟨rfl, (Below.refl _ _).drew⟩
      · rw [if_neg hgt1]
        have cmk : decide ((m : Int) < (k : Int)) = true := decide_eq_true (by omega)
        have cmk2 : decide (m < k) = true := decide_eq_true hmk
        have hsub : IntKind.u64.wrap ((h : Int) - 1) = ((h - 1 : Nat) : Int) := (wrap_u _ (by omega) (by omega)).trans (by omega)
        have hgt : decide (1 < IntKind.u64.wrap ((m : Int) - (k : Int))) = false := by
          rw [IntKind.wrap_u64]
          exact decide_eq_false (by omega)
        have htc := qc (h - 1)
        have hor := o0 (h - 1) (by omega)
        clear o0 o1 qc qd1 hdm qle q3 hz hY hmk hgt1 qd hml hhl hkl hp
        generalize (h - 1) / 2 ^ s ||| 0 = R at *
        generalize h / 2 ^ s * 2 ^ s = QQ at *
        generalize h / 2 ^ s = Q at *
        generalize (h - 1) / 2 ^ s = Qt at *
        generalize h - 1 = t at *
        go_enter Tryz.func64, Tryz.ntmps64
        go_wp2_with (first
          | (go_at_call 95; with_reducible refine (M1.out _).mono ?_; rintro e w' ⟨rfl, rfl⟩)
          | (go_at_call 95; with_reducible refine (M2.out _).mono ?_; rintro e w' ⟨rfl, rfl⟩)
          | (go_at_call 88; with_reducible refine (BT.out _).mono ?_; rintro e w' ⟨rfl, rfl⟩)
          | (go_at_call 88; with_reducible refine (BF.out _).mono ?_; rintro e w' ⟨rfl, rfl⟩))
        go_region_with (first
          | (go_at_call 88; with_reducible refine (BT.out _).mono ?_; rintro e w' ⟨rfl, rfl⟩)
          | (go_at_call 88; with_reducible refine (BF.out _).mono ?_; rintro e w' ⟨rfl, rfl⟩))
        all_goals
          go_wp2
          go_ret
          exact ⟨rfl, (Below.refl _ _).drew⟩
    · rw [if_neg hmk]
      by_cases hgt1 : (m + 18446744073709551616 - k) % 18446744073709551616 > 1
      · rw [if_pos hgt1]
        have cmk : decide ((m : Int) < (k : Int)) = false := decide_eq_false (by omega)
        have cmk2 : decide (m < k) = false := decide_eq_false hmk
        have hsub : IntKind.u64.wrap ((h : Int) - 0) = ((h : Nat) : Int) := (wrap_u _ (by omega) (by omega)).trans (by omega)
        rw [Int.sub_zero] at hsub
        have hgt : decide (1 < IntKind.u64.wrap ((m : Int) - (k : Int))) = true := by
          rw [IntKind.wrap_u64]
          exact decide_eq_true (by omega)
        have htc := qc (h)
        have hor := o1 (h) (by omega)
        clear o0 o1 qc qd1 hdm qle q3 hz hY hmk hgt1 qd hml hhl hkl hp
        generalize (h) / 2 ^ s ||| 1 = R at *
        generalize h / 2 ^ s * 2 ^ s = QQ at *
        generalize h / 2 ^ s = Q at *
        go_enter Tryz.func64, Tryz.ntmps64
        go_wp2_with (first
          | (go_at_call 95; with_reducible refine (M1.out _).mono ?_; rintro e w' ⟨rfl, rfl⟩)
          | (go_at_call 95; with_reducible refine (M2.out _).mono ?_; rintro e w' ⟨rfl, rfl⟩)
          | (go_at_call 88; with_reducible refine (BT.out _).mono ?_; rintro e w' ⟨rfl, rfl⟩)
          | (go_at_call 88; with_reducible refine (BF.out _).mono ?_; rintro e w' ⟨rfl, rfl⟩))
        go_region_with (first
          | (go_at_call 88; with_reducible refine (BT.out _).mono ?_; rintro e w' ⟨rfl, rfl⟩)
          | (go_at_call 88; with_reducible refine (BF.out _).mono ?_; rintro e w' ⟨rfl, rfl⟩))
        all_goals
          go_wp2
          go_ret
          exact ⟨rfl, (Below.refl _ _).drew⟩
      · rw [if_neg hgt1]
        have cmk : decide ((m : Int) < (k : Int)) = false := decide_eq_false (by omega)
        have cmk2 : decide (m < k) = false := decide_eq_false hmk
        have hsub : IntKind.u64.wrap ((h : Int) - 0) = ((h : Nat) : Int) := (wrap_u _ (by omega) (by omega)).trans (by omega)
        rw [Int.sub_zero] at hsub
        have hgt : decide (1 < IntKind.u64.wrap ((m : Int) - (k : Int))) = false := by
          rw [IntKind.wrap_u64]
          exact decide_eq_false (by omega)
        have htc := qc (h)
        have hor := o0 (h) (by omega)
        clear o0 o1 qc qd1 hdm qle q3 hz hY hmk hgt1 qd hml hhl hkl hp
        generalize (h) / 2 ^ s ||| 0 = R at *
        generalize h / 2 ^ s * 2 ^ s = QQ at *
        generalize h / 2 ^ s = Q at *
        go_enter Tryz.func64, Tryz.ntmps64
        go_wp2_with (first
          | (go_at_call 95; with_reducible refine (M1.out _).mono ?_; rintro e w' ⟨rfl, rfl⟩)
          | (go_at_call 95; with_reducible refine (M2.out _).mono ?_; rintro e w' ⟨rfl, rfl⟩)
          | (go_at_call 88; with_reducible refine (BT.out _).mono ?_; rintro e w' ⟨rfl, rfl⟩)
          | (go_at_call 88; with_reducible refine (BF.out _).mono ?_; rintro e w' ⟨rfl, rfl⟩))
        go_region_with (first
          | (go_at_call 88; with_reducible refine (BT.out _).mono ?_; rintro e w' ⟨rfl, rfl⟩)
          | (go_at_call 88; with_reducible refine (BF.out _).mono ?_; rintro e w' ⟨rfl, rfl⟩))
        all_goals
          go_wp2
          go_ret
          exact ⟨rfl, (Below.refl _ _).drew⟩
  · rw [if_pos hz]
    have ne : (((h / 2 ^ s * 2 ^ s : Nat) : Int) != (h : Int)) = true := by
      apply bne_iff_ne.2
      intro e
      omega
    have o1 := o1 h (Nat.le_refl _)
    clear o0 qc qd1 hdm qle q3 hz hY
    generalize h / 2 ^ s ||| 1 = R at *
    generalize h / 2 ^ s * 2 ^ s = QQ at *
    generalize h / 2 ^ s = Q at *
    go_enter Tryz.func64, Tryz.ntmps64
    go_wp2_with (first
      | (go_at_call 95; with_reducible refine (M1.out _).mono ?_; rintro e w' ⟨rfl, rfl⟩))
    go_ret
    exact ⟨rfl, Below.refl _ _⟩
end Go.Proofs.YtjniglmijikojaaGreatDoor.Text
