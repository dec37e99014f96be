/- RealWholes: the walk of the law. The conditions: 64 bits; the tables are laid. -/
import Derived.Test.YthpmhjlndnelfaaDoorMyTurned
import Derived.Test.YthpmhjlndnelfaaDoorOwnWhole
namespace Go.Proofs.YthpmhjlndnelfaaDoor.Real
open Go.RowKit Go.Lib Go.Proofs.YthpmhjlndnelfaaDoorW.PrintWords

def geB (b c : Nat) : Bool := !nan b && decide (key c ≤ key b)

theorem t_ge (b c : Nat) (hb : b < 18446744073709551616) (hc : c < 18446744073709551616) (hn : nan c = false) :
    (FloatKind.f64.format.order b c == some Ordering.gt || FloatKind.f64.format.order b c == some Ordering.eq) = geB b c := by
  rw [f64]
  unfold geB
  cases h : nan b with
  | true => rw [order_nan_left b c hb h]; rfl
  | false =>
    rw [order_key b c hb hc h hn, cmp_int]
    rcases Int.lt_trichotomy (key b) (key c) with h1 | h1 | h1
    · rw [if_pos h1, decide_eq_false (by omega)]; rfl
    · rw [if_neg (by omega), if_pos h1, decide_eq_true (by omega)]; rfl
    · rw [if_neg (by omega), if_neg (by omega), decide_eq_true (by omega)]; rfl

theorem t_le (b c : Nat) (hb : b < 18446744073709551616) (hc : c < 18446744073709551616) (h : nan b = false) (hn : nan c = false) (hk : key b ≤ key c) :
    (FloatKind.f64.format.order b c == some Ordering.lt || FloatKind.f64.format.order b c == some Ordering.eq) = true := by
  rw [f64, order_key b c hb hc h hn, cmp_int]
  by_cases h1 : key b < key c
  · rw [if_pos h1]; rfl
  · rw [if_neg h1, if_pos (by omega)]; rfl

theorem n_one : nan 4607182418800017408 = false := by decide
theorem k_one : key 4607182418800017408 = 4607182418800017408 := by decide
theorem n_top : nan 4895412794951729152 = false := by decide
theorem k_top : key 4895412794951729152 = 4895412794951729152 := by decide

theorem whole_any (b m : Nat) (hb : b < 18446744073709551616) (w : World) :
    Calls Tryd.prog 21 #[.float .f64 b, .int .u64 (m : Int)] w fun e w' => e = .returned (.int .u64 (wh b m : Int)) ∧ w = w' := by
  have t1 := t_ge b 4607182418800017408 hb (by omega) n_one
  have t2 := t_ge b 4895412794951729152 hb (by omega) n_top
  unfold wh
  by_cases h1 : nan b || decide (key b < 4607182418800017408)
  · rw [if_pos h1]
    have e1 : geB b 4607182418800017408 = false := by
      unfold geB
      rw [k_one]
      rcases Bool.or_eq_true _ _ ▸ h1 with h | h
      · rw [h]; rfl
      · rw [decide_eq_true_eq] at h
        rw [decide_eq_false (by omega)]
        cases nan b <;> rfl
    rw [e1] at t1
    clear h1 e1 t2
    go_enter Tryd.func21, Tryd.ntmps21
    go_wp2
    go_ret
    exact ⟨rfl, rfl⟩
  · rw [if_neg h1]
    simp only [Bool.or_eq_true, decide_eq_true_eq, not_or, Bool.not_eq_true] at h1
    have e1 : geB b 4607182418800017408 = true := by
      unfold geB
      rw [k_one, h1.1, decide_eq_true (by omega)]
      rfl
    rw [e1] at t1
    by_cases h2 : 4895412794951729152 ≤ key b
    · rw [if_pos h2]
      have e2 : geB b 4895412794951729152 = true := by
        unfold geB
        rw [k_top, h1.1, decide_eq_true h2]
        rfl
      rw [e2] at t2
      clear h1 e1 e2 h2
      go_enter Tryd.func21, Tryd.ntmps21
      go_wp2
      go_ret
      exact ⟨rfl, rfl⟩
    · rw [if_neg h2]
      have e2 : geB b 4895412794951729152 = false := by
        unfold geB
        rw [k_top, h1.1, decide_eq_false h2]
        rfl
      rw [e2] at t2
      obtain ⟨sb, kb⟩ := pos_key b (by omega)
      have hr : rg b < 4895412794951729152 := by omega
      have hti := toInt_eq b hb (by omega) sb
      have hfl := flo_top (rg b) hr
      have hcv : ∀ W, (convert 22 29 (.float .f64 b)).run Tryd.prog W = .ok (.int .u64 (flo b : Int)) W := by
        intro W
        refine run_convert_float_int W 22 29 .f64 .u64 b (flo b) (by rw [Tryd.underlying22]; rfl) Tryd.underlying29 ?_
        unfold floatToIntVal
        have hd : (FloatKind.f64.decode b).toInt .zero = some (flo b : Int) := hti
        rw [hd]
        have hf : flo b < 18446744073709551616 := hfl
        simp only
        rw [if_pos]
        simp [IntKind.min, IntKind.max, IntKind.signed, IntKind.bits]
        omega
      have hmin : min ((flo b : Nat) : Int) ((m : Nat) : Int) = ((min (flo b) m : Nat) : Int) := by omega
      have hf0 : flo b < 18446744073709551616 := hfl
      clear h1 e1 e2 h2 sb kb hr hti hfl
      go_enter Tryd.func21, Tryd.ntmps21
      go_wp2
      go_ret
      exact ⟨rfl, rfl⟩

theorem nr_bits (x : Nat) : nr x 0 < 18446744073709551616 ∧ nan (nr x 0) = false ∧ key (nr x 0) = (nr x 0 : Int) ∧ rg (nr x 0) = nr x 0 := by
  have h := nr_le x 0
  have h1 : rg (nr x 0) = nr x 0 := Nat.mod_eq_of_lt (by omega)
  refine ⟨by omega, ?_, ?_, h1⟩
  · unfold nan
    rw [h1]
    exact decide_eq_false (by omega)
  · unfold key sg
    rw [h1, decide_eq_false (by omega)]
    rfl

theorem conv_at (x : Nat) (W : World) : (convert 29 22 (.int .u64 (x : Int))).run Tryd.prog W = .ok (.float .f64 (nr x 0)) W := by
  have h := run_convert_int_float (P := Tryd.prog) W 29 22 .u64 .f64 (x : Int) (by rw [Tryd.underlying29]; rfl) Tryd.underlying22
  rw [h]
  have e : floatOfInt .f64 (x : Int) = Ieee.double.write (.number (decide ((x : Int) < 0)) (x : Int).natAbs 0) := rfl
  rw [e]
  simp only [Ieee.Format.write]
  rw [decide_eq_false (show ¬ (x : Int) < 0 by omega), nearest_nr, Int.natAbs_natCast, word_of, if_neg (by simp)]

theorem vl_one : vl BB 4607182418800017408 = U := by
  obtain ⟨e, he⟩ : ∃ e : Nat, e = 1022 := ⟨_, rfl⟩
  have e1 : e * BB + BB = 4607182418800017408 := by subst he; decide
  rw [← e1, vl_form e BB (Nat.le_refl _) (show BB < 2 * BB by decide), ← BB_two, ← Nat.pow_add]
  unfold U
  congr 1
  subst he
  rfl

theorem vl_top : vl BB 4895412794951729152 = 18446744073709551616 * U := by
  obtain ⟨d, hd⟩ : ∃ d : Nat, d = 12 := ⟨12, rfl⟩
  have e1 : (d + 1074) * BB + BB = 4895412794951729152 := by subst hd; decide
  rw [← e1, vl_form (d + 1074) BB (Nat.le_refl _) (show BB < 2 * BB by decide), U_over, ← Nat.mul_assoc]
  have e2 : BB * 2 ^ d = 18446744073709551616 := by subst hd; decide
  rw [e2]

theorem wh_whole (x : Nat) (h : x < 9007199254740992) : wh (nr x 0) 18446744073709551615 = x := by
  obtain ⟨h1, h2, h3, h4⟩ := nr_bits x
  unfold wh
  rw [h2, h3]
  by_cases h0 : x = 0
  · subst h0
    have : nr 0 0 = 0 := by unfold nr; simp
    rw [this]
    rfl
  · obtain ⟨g1, g2⟩ := nr_small x h0 h
    have k1 : 4607182418800017408 ≤ nr x 0 := (vl_le _ _).1 (by
      rw [vl_one, g2]
      have := Nat.mul_le_mul_right U (show 1 ≤ x by omega)
      rw [Nat.one_mul] at this
      exact this)
    have k2 : nr x 0 < 4895412794951729152 := (vl_lt BB _ _ BB_pos).1 (by
      rw [vl_top, g2]
      exact Nat.mul_lt_mul_of_pos_right (by omega) U_pos)
    rw [decide_eq_false (by omega), if_neg (by simp), if_neg (by omega)]
    have hf : flo (nr x 0) = x := by
      unfold flo
      rw [h4, g2, Nat.mul_div_cancel _ U_pos]
    rw [hf]
    omega

theorem wh_under (a m : Nat) (hm : m < 18446744073709551616) (h0 : wh a m ≠ 0) : nan a = false ∧ ((nr (wh a m) 0 : Nat) : Int) ≤ key a := by
  have hlt := wh_le a m
  by_cases h1 : nan a || decide (key a < 4607182418800017408)
  · exfalso
    unfold wh at h0
    rw [if_pos h1] at h0
    exact h0 rfl
  · have hw : wh a m = if 4895412794951729152 ≤ key a then m else min (flo a) m := by unfold wh; rw [if_neg h1]
    simp only [Bool.or_eq_true, decide_eq_true_eq, not_or, Bool.not_eq_true] at h1
    obtain ⟨sa, ka⟩ := pos_key a (by omega)
    refine ⟨h1.1, ?_⟩
    have : nr (wh a m) 0 ≤ rg a := by
      refine nr_le_of _ _ (by omega) ?_
      by_cases h2 : 4895412794951729152 ≤ key a
      · have e : vl BB 4895412794951729152 ≤ vl BB (rg a) := (vl_le _ _).2 (by omega)
        rw [vl_top] at e
        exact Nat.le_trans (Nat.mul_le_mul_right _ (by omega)) e
      · rw [if_neg h2] at hw
        have : wh a m ≤ flo a := by omega
        refine Nat.le_trans (Nat.mul_le_mul_right _ this) ?_
        unfold flo
        exact Nat.div_mul_le_self _ _
    omega

theorem whole_at (b m r : Nat) (hb : b < 18446744073709551616) (h : wh b m = r) (w : World) :
    Calls Tryd.prog 21 #[.float .f64 b, .int .u64 (m : Int)] w fun e w' => e = .returned (.int .u64 (r : Int)) ∧ w = w' := h ▸ whole_any b m hb w

set_option maxHeartbeats 2000000 in
theorem wholes_walk (a b n m : Nat) (ha : a < 18446744073709551616) (hb : b < 18446744073709551616) (hn : n < 18446744073709551616) (hm : m < 18446744073709551616) (w : World) (ht : Tabs w) :
    Calls Tryd.prog 6 #[.float .f64 a, .float .f64 b, .int .u64 (n : Int), .int .u64 (m : Int)] w fun e w' => e = .returned (.bool true) ∧ Below w.heap.size w w' := by
  have HT := Aside0.mk ht
  clear ht
  obtain ⟨x, hx⟩ : ∃ k, wh a m = k := ⟨_, rfl⟩
  obtain ⟨y, hy⟩ : ∃ k, wh b m = k := ⟨_, rfl⟩
  obtain ⟨c, hc⟩ : ∃ k, cp a b = k := ⟨_, rfl⟩
  obtain ⟨z, hz⟩ : ∃ k, n % 9007199254740992 = k := ⟨_, rfl⟩
  have hzl : z < 9007199254740992 := by rw [← hz]; exact Nat.mod_lt _ (by omega)
  have hzn : (n : Int) % 9007199254740992 = (z : Int) := by omega
  have HX := Aside0.mk (whole_at a m x ha hx)
  have HY := Aside0.mk (whole_at b m y hb hy)
  have HC := Aside0.mk (cmp_at a b c ha hb hc)
  have hzz : ∀ W, Calls Tryd.prog 21 #[.float .f64 (nr z 0), .int .u64 18446744073709551615] W fun e w' => e = .returned (.int .u64 (z : Int)) ∧ W = w' := fun W => whole_at (nr z 0) 18446744073709551615 z (nr_bits z).1 (wh_whole z hzl) W
  have HZ := Aside0.mk hzz
  have hcz := fun W => conv_at z W
  have hcx := fun W => conv_at x W
  have hmo : 0 < c ∨ x ≤ y := by
    by_cases h : 0 < c
    · exact .inl h
    · right
      rw [← hx, ← hy]
      exact wh_mono a b m (by omega)
  have hxm : x ≤ m := by rw [← hx]; exact wh_le a m
  have hxm' : decide (x ≤ m) = true := decide_eq_true hxm
  have hla : x = 0 ∨ (FloatKind.f64.format.order (nr x 0) a == some Ordering.lt || FloatKind.f64.format.order (nr x 0) a == some Ordering.eq) = true := by
    by_cases h : x = 0
    · exact .inl h
    · right
      have := wh_under a m hm (by rw [hx]; exact h)
      rw [hx] at this
      exact t_le _ _ (nr_bits x).1 ha (nr_bits x).2.1 this.1 (by rw [(nr_bits x).2.2.1]; exact this.2)
  clear hx hy hc hz hzz
  have hzz2 : (z == z) = true := beq_self_eq_true z
  by_cases hx00 : x = 0
  · subst hx00
    clear hla
    rcases hmo with hmo | hmo
    · have hmo' : decide (c > 0) = true := decide_eq_true hmo
      go_enter Tryd.func6, Tryd.ntmps6
      go_wp2_with (first
        | (go_at_call 14; refine (awake02 _ HT.out).mono ?_; rintro e w1 ⟨rfl, hb1⟩; have HB1 := Aside0.mk hb1; clear hb1)
        | ((go_at_call 21; with_reducible refine (HX.out _).mono ?_); rintro e w' ⟨rfl, rfl⟩)
        | ((go_at_call 21; with_reducible refine (HY.out _).mono ?_); rintro e w' ⟨rfl, rfl⟩)
        | ((go_at_call 21; with_reducible refine (HZ.out _).mono ?_); rintro e w' ⟨rfl, rfl⟩)
        | ((go_at_call 16; with_reducible refine (HC.out _).mono ?_); rintro e w' ⟨rfl, rfl⟩))
      go_ret
      exact ⟨rfl, HB1.out⟩
    · by_cases hc0 : 0 < c
      · have hmo' : decide (c > 0) = true := decide_eq_true hc0
        go_enter Tryd.func6, Tryd.ntmps6
        go_wp2_with (first
          | (go_at_call 14; refine (awake02 _ HT.out).mono ?_; rintro e w1 ⟨rfl, hb1⟩; have HB1 := Aside0.mk hb1; clear hb1)
          | ((go_at_call 21; with_reducible refine (HX.out _).mono ?_); rintro e w' ⟨rfl, rfl⟩)
          | ((go_at_call 21; with_reducible refine (HY.out _).mono ?_); rintro e w' ⟨rfl, rfl⟩)
          | ((go_at_call 21; with_reducible refine (HZ.out _).mono ?_); rintro e w' ⟨rfl, rfl⟩)
          | ((go_at_call 16; with_reducible refine (HC.out _).mono ?_); rintro e w' ⟨rfl, rfl⟩))
        go_ret
        exact ⟨rfl, HB1.out⟩
      · have hmo' : decide (c > 0) = false := decide_eq_false (by omega)
        have hxy : decide (0 ≤ y) = true := decide_eq_true hmo
        go_enter Tryd.func6, Tryd.ntmps6
        go_wp2_with (first
          | (go_at_call 14; refine (awake02 _ HT.out).mono ?_; rintro e w1 ⟨rfl, hb1⟩; have HB1 := Aside0.mk hb1; clear hb1)
          | ((go_at_call 21; with_reducible refine (HX.out _).mono ?_); rintro e w' ⟨rfl, rfl⟩)
          | ((go_at_call 21; with_reducible refine (HY.out _).mono ?_); rintro e w' ⟨rfl, rfl⟩)
          | ((go_at_call 21; with_reducible refine (HZ.out _).mono ?_); rintro e w' ⟨rfl, rfl⟩)
          | ((go_at_call 16; with_reducible refine (HC.out _).mono ?_); rintro e w' ⟨rfl, rfl⟩))
        go_ret
        exact ⟨rfl, HB1.out⟩
  · have hla2 : (FloatKind.f64.format.order (nr x 0) a == some Ordering.lt || FloatKind.f64.format.order (nr x 0) a == some Ordering.eq) = true := hla.resolve_left hx00
    have hxb : ((x : Int) == 0) = false := beq_eq_false_iff_ne.2 (by omega)
    clear hla
    rcases hmo with hmo | hmo
    · have hmo' : decide (c > 0) = true := decide_eq_true hmo
      go_enter Tryd.func6, Tryd.ntmps6
      go_wp2_with (first
        | (go_at_call 14; refine (awake02 _ HT.out).mono ?_; rintro e w1 ⟨rfl, hb1⟩; have HB1 := Aside0.mk hb1; clear hb1)
        | ((go_at_call 21; with_reducible refine (HX.out _).mono ?_); rintro e w' ⟨rfl, rfl⟩)
        | ((go_at_call 21; with_reducible refine (HY.out _).mono ?_); rintro e w' ⟨rfl, rfl⟩)
        | ((go_at_call 21; with_reducible refine (HZ.out _).mono ?_); rintro e w' ⟨rfl, rfl⟩)
        | ((go_at_call 16; with_reducible refine (HC.out _).mono ?_); rintro e w' ⟨rfl, rfl⟩))
      go_ret
      exact ⟨rfl, HB1.out⟩
    · by_cases hc0 : 0 < c
      · have hmo' : decide (c > 0) = true := decide_eq_true hc0
        go_enter Tryd.func6, Tryd.ntmps6
        go_wp2_with (first
          | (go_at_call 14; refine (awake02 _ HT.out).mono ?_; rintro e w1 ⟨rfl, hb1⟩; have HB1 := Aside0.mk hb1; clear hb1)
          | ((go_at_call 21; with_reducible refine (HX.out _).mono ?_); rintro e w' ⟨rfl, rfl⟩)
          | ((go_at_call 21; with_reducible refine (HY.out _).mono ?_); rintro e w' ⟨rfl, rfl⟩)
          | ((go_at_call 21; with_reducible refine (HZ.out _).mono ?_); rintro e w' ⟨rfl, rfl⟩)
          | ((go_at_call 16; with_reducible refine (HC.out _).mono ?_); rintro e w' ⟨rfl, rfl⟩))
        go_ret
        exact ⟨rfl, HB1.out⟩
      · have hmo' : decide (c > 0) = false := decide_eq_false (by omega)
        have hxy : decide (x ≤ y) = true := decide_eq_true hmo
        go_enter Tryd.func6, Tryd.ntmps6
        go_wp2_with (first
          | (go_at_call 14; refine (awake02 _ HT.out).mono ?_; rintro e w1 ⟨rfl, hb1⟩; have HB1 := Aside0.mk hb1; clear hb1)
          | ((go_at_call 21; with_reducible refine (HX.out _).mono ?_); rintro e w' ⟨rfl, rfl⟩)
          | ((go_at_call 21; with_reducible refine (HY.out _).mono ?_); rintro e w' ⟨rfl, rfl⟩)
          | ((go_at_call 21; with_reducible refine (HZ.out _).mono ?_); rintro e w' ⟨rfl, rfl⟩)
          | ((go_at_call 16; with_reducible refine (HC.out _).mono ?_); rintro e w' ⟨rfl, rfl⟩))
        go_ret
        exact ⟨rfl, HB1.out⟩

theorem wf64n {a : Int} (h : (Lit.int .u64 a).wf = true) : 0 ≤ a ∧ a ≤ 18446744073709551615 := by
  simp [Lit.wf, IntKind.min, IntKind.max, IntKind.signed, IntKind.bits] at h
  omega

theorem wholes_row (a b : Nat) (n m : Int) (ha : a < 18446744073709551616) (hb : b < 18446744073709551616) (hn : (Lit.int .u64 n).wf = true) (hm : (Lit.int .u64 m).wf = true) (w : World) (ht : Tabs w) :
    Calls Tryd.prog 6 #[.float .f64 a, .float .f64 b, .int .u64 n, .int .u64 m] w fun e w' => e = .returned (.bool true) ∧ Below w.heap.size w w' := by
  have h1 := wf64n hn
  have h2 := wf64n hm
  obtain ⟨n', rfl⟩ : ∃ k : Nat, n = k := ⟨n.toNat, by omega⟩
  obtain ⟨m', rfl⟩ : ∃ k : Nat, m = k := ⟨m.toNat, by omega⟩
  exact wholes_walk a b n' m' ha hb (by omega) (by omega) w ht
end Go.Proofs.YthpmhjlndnelfaaDoor.Real
