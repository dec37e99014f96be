/- The document's Whole: its contract. The conditions: 64 bits. -/
import Derived.Test.YthpmhjlndnelfaaDoorMyWholes
import Derived.Test.YthpmhjlndnelfaaDoorOwnSub
import Derived.Test.YthpmhjlndnelfaaDoorMyRatios
namespace Go.Proofs.YthpmhjlndnelfaaDoor.Real
open Go.RowKit Go.Lib Go.Proofs.YthpmhjlndnelfaaDoorW.PrintWords

theorem run_times (a b c : Nat) (h : Ieee.double.mul a b = some c) (W : World) : (binOp .mul 22 (.float .f64 a) (.float .f64 b)).run Tryd.prog W = .ok (.float .f64 c) W := by
  have h' : FloatKind.f64.format.mul a b = some c := h
  simp [binOp, Op.floatArith, h']
theorem run_minus (a b c : Nat) (h : Ieee.double.sub a b = some c) (W : World) : (binOp .sub 22 (.float .f64 a) (.float .f64 b)).run Tryd.prog W = .ok (.float .f64 c) W := by
  have h' : FloatKind.f64.format.sub a b = some c := h
  simp [binOp, Op.floatArith, h']

/-- A finite number that is not below 0. -/
theorem fin_facts (c : Nat) (h : c < 9218868437227405312) : nan c = false ∧ key c = (c : Int) ∧ c < 18446744073709551616 := by
  have hr : rg c = c := Nat.mod_eq_of_lt (by omega)
  have hs : sg c = false := decide_eq_false (by omega)
  refine ⟨by unfold nan; rw [hr]; exact decide_eq_false (by omega), ?_, by omega⟩
  unfold key
  rw [hs, hr]
  rfl

theorem ge_fin (c u : Nat) (hc : c < 9218868437227405312) (hu : u < 9218868437227405312) :
    (FloatKind.f64.format.order c u == some Ordering.gt || FloatKind.f64.format.order c u == some Ordering.eq) = decide (u ≤ c) := by
  obtain ⟨c1, c2, c3⟩ := fin_facts c hc
  obtain ⟨u1, u2, u3⟩ := fin_facts u hu
  rw [t_ge c u c3 u3 u1]
  unfold geB
  rw [c1, c2, u2]
  simp

theorem unit_top (i : Nat) (h : i ≤ 64) : nr (2 ^ i) 0 < 9218868437227405312 := by
  rw [unit_nr i h, BB_v]
  omega

/-- Before the round of number k - 1. -/
def WholeRel (b : Nat) (x n i : Value) : Prop :=
  ∃ k c N : Nat, k ≤ 64 ∧ x = .float .f64 c ∧ n = .int .u64 (N : Int) ∧ i = .int .i64 ((k : Int) - 1) ∧ c < 9218868437227405312 ∧ vl BB c < 2 ^ k * U ∧ N * U + vl BB c = vl BB b

theorem pow_cast (j : Nat) : ((2 ^ j : Nat) : Int) = (2 : Int) ^ j := by simp
theorem wrap_pow (j p : Nat) (hp : p = 2 ^ j) (h : j ≤ 63) : IntKind.u64.wrap ((2 : Int) ^ j) = (p : Int) := by
  have h1 : p ≤ 9223372036854775808 := by rw [hp]; exact Nat.le_trans (Nat.pow_le_pow_right (by omega) h) (by decide)
  have h2 : (p : Int) = (2 : Int) ^ j := by rw [hp]; exact pow_cast j
  rw [← h2, IntKind.wrap_u64]
  omega
theorem flo_nat (x : Nat) : floatOfInt .f64 (x : Int) = nr x 0 := by
  have e : floatOfInt .f64 (x : Int) = Ieee.double.write (.number (decide ((x : Int) < 0)) (x : Int).natAbs 0) := rfl
  rw [e]
  simp only [Ieee.Format.write]
  rw [decide_eq_false (show ¬ (x : Int) < 0 by omega), nearest_nr, Int.natAbs_natCast, word_of, if_neg (by simp)]

theorem flo_of (b N r : Nat) (h : N * U + r = vl BB (rg b)) (hr : r < U) : flo b = N := by
  unfold flo
  rw [← h, Nat.mul_comm, Nat.mul_add_div U_pos, Nat.div_eq_of_lt hr, Nat.add_zero]

theorem wh_mid (b m : Nat) (h1 : nan b = false) (h2 : 4607182418800017408 ≤ key b) (h3 : key b < 4895412794951729152) : wh b m = min (flo b) m := by
  unfold wh
  rw [h1, decide_eq_false (by omega), if_neg (by simp), if_neg (by omega)]

theorem pow_le_63 (j : Nat) (h : j ≤ 63) : 2 ^ j ≤ 9223372036854775808 := Nat.le_trans (Nat.pow_le_pow_right (by omega) h) (by decide)

theorem step_down (j c N b : Nat) (p : Nat) (hp : p = 2 ^ j) (h1 : vl BB c < 2 ^ (j + 1) * U) (hN : N * U + vl BB c = vl BB b) (c' : Nat) (hc : vl BB c' + 2 ^ j * U = vl BB c) (hb : vl BB b < 18446744073709551616 * U) :
    vl BB c' < 2 ^ j * U ∧ (N + p) * U + vl BB c' = vl BB b ∧ N + p < 18446744073709551616 := by
  rw [Nat.pow_succ, Nat.mul_comm (2 ^ j) 2, Nat.mul_assoc] at h1
  have e : (N + p) * U = N * U + 2 ^ j * U := by rw [hp, Nat.add_mul]
  generalize 2 ^ j * U = z at *
  refine ⟨by omega, by omega, ?_⟩
  have : (N + p) * U < 18446744073709551616 * U := by omega
  exact Nat.lt_of_mul_lt_mul_right this

set_option maxHeartbeats 4000000 in
theorem rwhole_mid (b m : Nat) (hb : b < 18446744073709551616) (h1 : nan b = false) (h2 : 4607182418800017408 ≤ key b) (h3 : key b < 4895412794951729152) (w : World) :
    Calls Tryd.prog 51 #[.float .f64 b, .int .u64 (m : Int)] w fun e w' => e = .returned (.int .u64 (wh b m : Int)) ∧ w = w' := by
  have t1 := t_ge b 4607182418800017408 hb (by omega) n_one
  have e1 : geB b 4607182418800017408 = true := by unfold geB; rw [k_one, h1, decide_eq_true (by omega)]; rfl
  rw [e1] at t1
  obtain ⟨s1, s2⟩ := pos_key b h2
  have hbb : b < 4895412794951729152 := by
    have hr : rg b = b := by
      unfold sg at s1
      have := of_decide_eq_false s1
      exact Nat.mod_eq_of_lt (by omega)
    rw [s2, hr] at h3
    omega
  have hrg : rg b = b := Nat.mod_eq_of_lt (by omega)
  have hv : vl BB b < 18446744073709551616 * U := by rw [← vl_top]; exact (vl_lt BB b _ BB_pos).2 hbb
  have hwh := wh_mid b m h1 h2 h3
  have HV := Aside0.mk hv
  have HV64 : Aside0 (vl BB b < 2 ^ 64 * U) := ⟨by rw [show (2 : Nat) ^ 64 = 18446744073709551616 by decide]; exact hv⟩
  have HWH := Aside0.mk hwh
  have HRG := Aside0.mk hrg
  have HBB := Aside0.mk hbb
  clear hv hwh hrg e1 s1 s2 h1 h2 h3 hbb
  go_enter Tryd.func51, Tryd.ntmps51
  go_wp2
  go_loop [0, 5, 6] (fun x n i => WholeRel b x n i) (fun _ _ i => (RowKit.intOf i + 1).toNat)
  case atStart => exact ⟨64, b, 0, Nat.le_refl _, rfl, rfl, rfl, by have := HBB.out; omega, HV64.out, by rw [Nat.zero_mul, Nat.zero_add]⟩
  case round =>
    obtain ⟨k, c, N, hk, rfl, rfl, rfl, hc, hlt, hN⟩ := hrel
    cases k with
    | zero =>
      rw [Nat.pow_zero, Nat.one_mul] at hlt
      have hf := flo_of b N (vl BB c) (by rw [HRG.out]; exact hN) hlt
      rw [hf] at HWH
      have HW := HWH.out
      clear HWH hlt hN hf HRG
      by_cases hm : m < N
      · have g1 : decide ((N : Int) > (m : Int)) = true := decide_eq_true (by omega)
        rw [Nat.min_eq_right (by omega)] at HW
        have HWA := Aside0.mk HW
        clear HW
        go_wp2
        go_ret
        exact ⟨by rw [HWA.out]; rfl, rfl⟩
      · have g1 : decide ((N : Int) > (m : Int)) = false := decide_eq_false (by omega)
        rw [Nat.min_eq_left (by omega)] at HW
        have HWA := Aside0.mk HW
        clear HW
        go_wp2
        go_ret
        exact ⟨by rw [HWA.out]; rfl, rfl⟩
    | succ j =>
      have ej : (((j + 1 : Nat) : Int) - 1) = (j : Int) := by omega
      rw [ej]
      obtain ⟨p, hp⟩ : ∃ p, p = 2 ^ j := ⟨_, rfl⟩
      have kw : IntKind.u64.wrap ((2 : Int) ^ j) = (p : Int) := wrap_pow j p hp (by omega)
      have kf := flo_nat p
      have hu1 := unit_top j (by omega)
      have hu2 := unit_top (j + 1) (by omega)
      have hv1 := unit_vl j (by omega)
      have hv2 := unit_vl (j + 1) (by omega)
      have k3 := fun W => run_times _ _ _ (twice j (by omega)) W
      have g2 := ge_fin c (nr (2 ^ (j + 1)) 0) hc hu2
      have g1 := ge_fin c (nr (2 ^ j) 0) hc hu1
      have lt2 : c < nr (2 ^ (j + 1)) 0 := (vl_lt BB _ _ BB_pos).1 (by rw [hv2]; exact hlt)
      rw [decide_eq_false (by omega)] at g2
      have hpl : p ≤ 9223372036854775808 := by rw [hp]; exact pow_le_63 j (by omega)
      have hsub := sub_unit c j (by omega)
      rw [← hp] at k3 g1 hv1 hsub
      by_cases hg : nr p 0 ≤ c
      · rw [decide_eq_true hg] at g1
        obtain ⟨c', a1, a2, a3⟩ := hsub hg lt2
        have k4 := fun W => run_minus _ _ _ a1 W
        obtain ⟨b1, b2, b3⟩ := step_down j c N b p hp hlt hN c' (by rw [← hp]; exact a3) HV.out
        have HR : Aside0 (∃ M : Nat, (M : Int) = IntKind.u64.wrap ((N : Int) + (p : Int)) ∧ vl BB c' < 2 ^ j * U ∧ M * U + vl BB c' = vl BB b) := ⟨⟨N + p, by rw [IntKind.wrap_u64]; omega, b1, b2⟩⟩
        have HA := Aside0.mk a2
        have hj : (0 : Int) ≤ (j : Int) := by omega
        clear hp hu1 hu2 hv1 hv2 lt2 hpl hsub hg a1 a2 a3 b1 b2 b3 hlt hN hc ej
        generalize nr p 0 = u at *
        generalize nr (2 ^ (j + 1)) 0 = u2 at *
        go_wp2
        go_round
        case rel =>
          obtain ⟨M, m1, m2, m3⟩ := HR.out
          exact ⟨j, c', M, by omega, rfl, by rw [m1], by go_num, HA.out, m2, m3⟩
        case measure => simp [RowKit.intOf]
      · rw [decide_eq_false hg] at g1
        have hl : vl BB c < 2 ^ j * U := by
          have h4 := (vl_lt BB c (nr p 0) BB_pos).2 (by omega)
          rw [hv1, hp] at h4
          exact h4
        have HR := Aside0.mk (And.intro hl hN)
        have HA := Aside0.mk hc
        have hj : (0 : Int) ≤ (j : Int) := by omega
        clear hp hu1 hu2 hv1 hv2 lt2 hpl hsub hg hlt hN hc ej hl
        generalize nr p 0 = u at *
        generalize nr (2 ^ (j + 1)) 0 = u2 at *
        go_wp2
        go_round
        case rel => exact ⟨j, c, N, by omega, rfl, rfl, by go_num, HA.out, HR.out.1, HR.out.2⟩
        case measure => simp [RowKit.intOf]

theorem mul_top : Ieee.double.mul 4611686018427387904 4890909195324358656 = some 4895412794951729152 := by decide +kernel
theorem flo_top_unit : floatOfInt .f64 9223372036854775808 = 4890909195324358656 := by decide +kernel

theorem rwhole_high (b m : Nat) (hb : b < 18446744073709551616) (h1 : nan b = false) (h3 : 4895412794951729152 ≤ key b) (w : World) :
    Calls Tryd.prog 51 #[.float .f64 b, .int .u64 (m : Int)] w fun e w' => e = .returned (.int .u64 (m : Int)) ∧ w = w' := by
  have t1 := t_ge b 4607182418800017408 hb (by omega) n_one
  have e1 : geB b 4607182418800017408 = true := by unfold geB; rw [k_one, h1, decide_eq_true (by omega)]; rfl
  rw [e1] at t1
  have t2 := t_ge b 4895412794951729152 hb (by omega) n_top
  have e2 : geB b 4895412794951729152 = true := by unfold geB; rw [k_top, h1, decide_eq_true (by omega)]; rfl
  rw [e2] at t2
  have kf := flo_top_unit
  have k3 := fun W => run_times _ _ _ mul_top W
  clear e1 e2 h1 h3 hb
  go_enter Tryd.func51, Tryd.ntmps51
  go_wp2
  go_loop [0, 5, 6] (fun x n i => x = .float .f64 b ∧ n = .int .u64 0 ∧ i = .int .i64 63) (fun _ _ _ => 0)
  case atStart => exact ⟨rfl, rfl, rfl⟩
  case round =>
    obtain ⟨rfl, rfl, rfl⟩ := hrel
    go_wp2
    go_ret
    exact ⟨rfl, rfl⟩

theorem rwhole_low (b m : Nat) (hb : b < 18446744073709551616) (h : nan b = true ∨ key b < 4607182418800017408) (w : World) :
    Calls Tryd.prog 51 #[.float .f64 b, .int .u64 (m : Int)] w fun e w' => e = .returned (.int .u64 0) ∧ w = w' := by
  have t1 := t_ge b 4607182418800017408 hb (by omega) n_one
  have e1 : geB b 4607182418800017408 = false := by
    unfold geB
    rw [k_one]
    rcases h with h | h
    · rw [h]; rfl
    · rw [decide_eq_false (by omega)]; cases nan b <;> rfl
  rw [e1] at t1
  clear e1 h hb
  go_enter Tryd.func51, Tryd.ntmps51
  go_wp2
  go_ret
  exact ⟨rfl, rfl⟩

theorem rwhole_at (b m r : Nat) (hb : b < 18446744073709551616) (hr : wh b m = r) (w : World) :
    Calls Tryd.prog 51 #[.float .f64 b, .int .u64 (m : Int)] w fun e w' => e = .returned (.int .u64 (r : Int)) ∧ w = w' := by
  subst hr
  by_cases h1 : nan b = true ∨ key b < 4607182418800017408
  · have : wh b m = 0 := by unfold wh; rw [if_pos (by simpa using h1)]
    rw [this]
    exact rwhole_low b m hb h1 w
  · have hn : nan b = false := by cases e : nan b with | false => rfl | true => exact absurd (.inl e) h1
    have hk : 4607182418800017408 ≤ key b := by have := (not_or.1 h1).2; omega
    by_cases h2 : 4895412794951729152 ≤ key b
    · have : wh b m = m := by unfold wh; rw [hn, decide_eq_false (by omega), if_neg (by simp), if_pos h2]
      rw [this]
      exact rwhole_high b m hb hn h2 w
    · exact rwhole_mid b m hb hn hk (by omega) w
end Go.Proofs.YthpmhjlndnelfaaDoor.Real
