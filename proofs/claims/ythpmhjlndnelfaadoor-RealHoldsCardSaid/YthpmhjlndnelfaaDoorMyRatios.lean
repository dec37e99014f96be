/- RealRatios: the walk of the law. The conditions: 64 bits; the tables are laid. -/
import Derived.Test.YthpmhjlndnelfaaDoorMyRef2
import Derived.Test.YthpmhjlndnelfaaDoorOwnDiv
namespace Go.Proofs.YthpmhjlndnelfaaDoor.Real
open Go.RowKit Go.Lib Go.Proofs.YthpmhjlndnelfaaDoorW.PrintWords

/-- The NaN that the machine draws for a quotient that is none. -/
def nanC (W : World) (a b : Nat) : Nat := (Question.nanBits .f64 a b).cut (W.tape W.drawn (.nanBits .f64 a b))

theorem nanC_lt (W : World) (a b : Nat) : nanC W a b < 18446744073709551616 := by
  unfold nanC Question.cut
  generalize W.tape W.drawn (Question.nanBits .f64 a b) = t
  show (t % 2) * 2 ^ 63 + 9218868437227405312 + 1 + (t / 2) % (2 ^ 52 - 1) < 18446744073709551616
  omega

theorem nanC_nan (W : World) (a b : Nat) : nan (nanC W a b) = true := by
  unfold nanC Question.cut
  generalize W.tape W.drawn (Question.nanBits .f64 a b) = t
  show nan ((t % 2) * 2 ^ 63 + 9218868437227405312 + 1 + (t / 2) % (2 ^ 52 - 1)) = true
  have h1 : (t / 2) % (2 ^ 52 - 1) < 2 ^ 52 - 1 := Nat.mod_lt _ (by decide)
  generalize (t / 2) % (2 ^ 52 - 1) = x at h1
  unfold nan rg
  rw [decide_eq_true_eq]
  rcases Nat.mod_two_eq_zero_or_one t with e | e <;> rw [e] <;> omega

theorem run_div_none (a b : Nat) (h : Ieee.double.div a b = none) (W : World) : (binOp .quo 22 (.float .f64 a) (.float .f64 b)).run Tryd.prog W = .ok (.float .f64 (nanC W a b)) W.drew := by
  have h' : FloatKind.f64.format.div a b = none := h
  simp [binOp, Op.floatArith, h', Question.forced, nanC]

theorem ratio_some (a b q : Nat) (h : Ieee.double.div a b = some q) (hq : q < 18446744073709551616) (hn : nan q = false) (w : World) :
    Calls Tryd.prog 20 #[.float .f64 a, .float .f64 b] w fun e w' => e = .returned (.float .f64 q) ∧ w = w' := by
  have hd := fun W => run_div a b q h W
  have hi := isnan_any q hq
  rw [hn] at hi
  have HI := Aside0.mk hi
  clear hi h hn
  go_enter Tryd.func20, Tryd.ntmps20
  go_wp2_with (go_at_call 27; refine (HI.out _).mono ?_; rintro e w' ⟨rfl, rfl⟩)
  go_ret
  exact ⟨rfl, rfl⟩

theorem ratio_none (a b : Nat) (h : Ieee.double.div a b = none) (w : World) :
    Calls Tryd.prog 20 #[.float .f64 a, .float .f64 b] w fun e w' => e = .returned (.float .f64 0) ∧ Below w.heap.size w w' := by
  have hd := run_div_none a b h w
  have hi := isnan_any (nanC w a b) (nanC_lt w a b)
  rw [nanC_nan] at hi
  have HI := Aside0.mk hi
  clear hi h
  go_enter Tryd.func20, Tryd.ntmps20
  go_wp2_with (go_at_call 27; refine (HI.out _).mono ?_; rintro e w' ⟨rfl, rfl⟩)
  go_ret
  exact ⟨rfl, (Below.refl _ _).drew⟩

theorem ord_one : FloatKind.f64.format.order 4607182418800017408 4607182418800017408 = some Ordering.eq := by decide +kernel

set_option maxHeartbeats 2000000 in
theorem ratios_walk (a b : Nat) (ha : a < 18446744073709551616) (hb : b < 18446744073709551616) (w : World) (ht : Tabs w) :
    Calls Tryd.prog 5 #[.float .f64 a, .float .f64 b] w fun e w' => e = .returned (.bool true) ∧ Below w.heap.size w w' := by
  have HT := Aside0.mk ht
  clear ht
  obtain ⟨k, hk⟩ : ∃ k, kd a = k := ⟨_, rfl⟩
  have HK := Aside0.mk (kind_at a k ha hk)
  have ho1 := ord_one
  have hk25 : (k ≠ 2 ∧ k ≠ 5) ∨ (k = 2 ∧ Ieee.double.div a a = some 4607182418800017408) ∨ (k = 5 ∧ Ieee.double.div a a = some 4607182418800017408) := by
    by_cases h : k = 2 ∨ k = 5
    · have hs : Ieee.double.div a a = some 4607182418800017408 := by
        have hc := tk_cases a
        have hr := rg_le a
        have hnn : nan a = false := nan_of a (by omega)
        have htk : tk a = if sg a then -(rg a : Int) - 1 else (rg a : Int) := by unfold tk; rw [hnn]; rfl
        refine div_self a ha ?_ ?_
        · cases hs : sg a <;> rw [hs] at htk <;> simp at htk <;> omega
        · cases hs : sg a <;> rw [hs] at htk <;> simp at htk <;> omega
      rcases h with h | h
      · exact .inr (.inl ⟨h, hs⟩)
      · exact .inr (.inr ⟨h, hs⟩)
    · left; omega
  have h1n : nan 4607182418800017408 = false := by decide
  rcases div_facts a b ha hb with ⟨d1, d2, d3⟩ | ⟨q, d1, d2, d3, d4, d5⟩
  · have HQ := Aside0.mk (ratio_none a b d1)
    have hkz : kd 0 = 4 := by decide +kernel
    have HKQ := Aside0.mk (kind_at 0 4 (by omega) hkz)
    have hd := fun W => run_div_none a b d1 W
    have hnl := nanC_nan
    have hne : ∀ (W V : World), (FloatKind.f64.format.order (nanC W a b) (nanC V a b) != some Ordering.eq) = true := fun W V => by rw [f64, order_nan_left _ _ (nanC_lt W a b) (nanC_nan W a b)]; rfl
    clear hnl hk
    rcases hk25 with ⟨hk2, hk5⟩ | ⟨rfl, hself⟩ | ⟨rfl, hself⟩
    · have hk2' : (k == 2) = false := beq_eq_false_iff_ne.2 hk2
      have hk5' : (k == 5) = false := beq_eq_false_iff_ne.2 hk5
      clear d1 d2 d3 hk2 hk5
      go_enter Tryd.func5, Tryd.ntmps5
      go_wp2_with (first
        | (go_at_call 14; refine (awake02 _ HT.out).mono ?_; rintro e w1 ⟨rfl, hb1⟩; have HB1 := Aside0.mk hb1; clear hb1)
        | ((go_at_call 20; with_reducible refine (HQ.out _).mono ?_); rintro e w2 ⟨rfl, hb2⟩; have HB2 := Aside0.mk (HB1.out.trans (hb2.mono HB1.out.size)); clear hb2)
        | ((go_at_call 15; with_reducible refine (HK.out _).mono ?_); rintro e w' ⟨rfl, rfl⟩)
        | ((go_at_call 15; with_reducible refine (HKQ.out _).mono ?_); rintro e w' ⟨rfl, rfl⟩))
      go_ret
      exact ⟨rfl, HB2.out.drew.drew⟩
    · have HS := Aside0.mk (ratio_some a a _ hself (by omega) h1n)
      clear d1 d2 d3 hself
      go_enter Tryd.func5, Tryd.ntmps5
      go_wp2_with (first
        | (go_at_call 14; refine (awake02 _ HT.out).mono ?_; rintro e w1 ⟨rfl, hb1⟩; have HB1 := Aside0.mk hb1; clear hb1)
        | ((go_at_call 20; with_reducible refine (HQ.out _).mono ?_); rintro e w2 ⟨rfl, hb2⟩; have HB2 := Aside0.mk (HB1.out.trans (hb2.mono HB1.out.size)); clear hb2)
        | ((go_at_call 15; with_reducible refine (HK.out _).mono ?_); rintro e w' ⟨rfl, rfl⟩)
        | ((go_at_call 15; with_reducible refine (HKQ.out _).mono ?_); rintro e w' ⟨rfl, rfl⟩)
        | ((go_at_call 20; with_reducible refine (HS.out _).mono ?_); rintro e w' ⟨rfl, rfl⟩))
      go_ret
      exact ⟨rfl, HB2.out.drew.drew⟩
    · have HS := Aside0.mk (ratio_some a a _ hself (by omega) h1n)
      clear d1 d2 d3 hself
      go_enter Tryd.func5, Tryd.ntmps5
      go_wp2_with (first
        | (go_at_call 14; refine (awake02 _ HT.out).mono ?_; rintro e w1 ⟨rfl, hb1⟩; have HB1 := Aside0.mk hb1; clear hb1)
        | ((go_at_call 20; with_reducible refine (HQ.out _).mono ?_); rintro e w2 ⟨rfl, hb2⟩; have HB2 := Aside0.mk (HB1.out.trans (hb2.mono HB1.out.size)); clear hb2)
        | ((go_at_call 15; with_reducible refine (HK.out _).mono ?_); rintro e w' ⟨rfl, rfl⟩)
        | ((go_at_call 15; with_reducible refine (HKQ.out _).mono ?_); rintro e w' ⟨rfl, rfl⟩)
        | ((go_at_call 20; with_reducible refine (HS.out _).mono ?_); rintro e w' ⟨rfl, rfl⟩))
      go_ret
      exact ⟨rfl, HB2.out.drew.drew⟩
  · have HQ := Aside0.mk (ratio_some a b q d1 d4 d5)
    have HL := Aside0.mk (ratio_some (ng a) b (ng q) d2 (ng_lt q d4) (by rw [(ng_facts q d4).2.2.1, d5]))
    have HR := Aside0.mk (ratio_some a (ng b) (ng q) d3 (ng_lt q d4) (by rw [(ng_facts q d4).2.2.1, d5]))
    have HE := Aside0.mk (same_at (ng q) (ng q) 0 (ng_lt q d4) (ng_lt q d4) (ci_eq rfl))
    obtain ⟨kq, hkq⟩ : ∃ k, kd q = k := ⟨_, rfl⟩
    have HKQ := Aside0.mk (kind_at q kq d4 hkq)
    have hkq0 : (kq == 0) = false := beq_eq_false_iff_ne.2 (fun e => by have := (kd_nan q).1 (hkq.trans e); rw [d5] at this; cases this)
    have hd := fun W => run_div a b q d1 W
    have hqq := t_nan q d4
    rw [d5] at hqq
    have hu1 := un_neg a ha
    have hu2 := un_neg b hb
    have hu3 := un_neg q d4
    clear hkq d5 hk
    rcases hk25 with ⟨hk2, hk5⟩ | ⟨rfl, hself⟩ | ⟨rfl, hself⟩
    · have hk2' : (k == 2) = false := beq_eq_false_iff_ne.2 hk2
      have hk5' : (k == 5) = false := beq_eq_false_iff_ne.2 hk5
      clear d1 d2 d3 hk2 hk5
      go_enter Tryd.func5, Tryd.ntmps5
      go_wp2_with (first
        | (go_at_call 14; refine (awake02 _ HT.out).mono ?_; rintro e w1 ⟨rfl, hb1⟩; have HB1 := Aside0.mk hb1; clear hb1)
        | ((go_at_call 20; with_reducible refine (HQ.out _).mono ?_); rintro e w' ⟨rfl, rfl⟩)
        | ((go_at_call 20; with_reducible refine (HL.out _).mono ?_); rintro e w' ⟨rfl, rfl⟩)
        | ((go_at_call 20; with_reducible refine (HR.out _).mono ?_); rintro e w' ⟨rfl, rfl⟩)
        | ((go_at_call 19; with_reducible refine (HE.out _).mono ?_); rintro e w' ⟨rfl, rfl⟩)
        | ((go_at_call 15; with_reducible refine (HK.out _).mono ?_); rintro e w' ⟨rfl, rfl⟩)
        | ((go_at_call 15; with_reducible refine (HKQ.out _).mono ?_); rintro e w' ⟨rfl, rfl⟩))
      go_ret
      exact ⟨rfl, HB1.out⟩
    · have HS := Aside0.mk (ratio_some a a _ hself (by omega) h1n)
      clear d1 d2 d3 hself
      go_enter Tryd.func5, Tryd.ntmps5
      go_wp2_with (first
        | (go_at_call 14; refine (awake02 _ HT.out).mono ?_; rintro e w1 ⟨rfl, hb1⟩; have HB1 := Aside0.mk hb1; clear hb1)
        | ((go_at_call 20; with_reducible refine (HQ.out _).mono ?_); rintro e w' ⟨rfl, rfl⟩)
        | ((go_at_call 20; with_reducible refine (HL.out _).mono ?_); rintro e w' ⟨rfl, rfl⟩)
        | ((go_at_call 20; with_reducible refine (HR.out _).mono ?_); rintro e w' ⟨rfl, rfl⟩)
        | ((go_at_call 19; with_reducible refine (HE.out _).mono ?_); rintro e w' ⟨rfl, rfl⟩)
        | ((go_at_call 15; with_reducible refine (HK.out _).mono ?_); rintro e w' ⟨rfl, rfl⟩)
        | ((go_at_call 15; with_reducible refine (HKQ.out _).mono ?_); rintro e w' ⟨rfl, rfl⟩)
        | ((go_at_call 20; with_reducible refine (HS.out _).mono ?_); rintro e w' ⟨rfl, rfl⟩))
      go_ret
      exact ⟨rfl, HB1.out⟩
    · have HS := Aside0.mk (ratio_some a a _ hself (by omega) h1n)
      clear d1 d2 d3 hself
      go_enter Tryd.func5, Tryd.ntmps5
      go_wp2_with (first
        | (go_at_call 14; refine (awake02 _ HT.out).mono ?_; rintro e w1 ⟨rfl, hb1⟩; have HB1 := Aside0.mk hb1; clear hb1)
        | ((go_at_call 20; with_reducible refine (HQ.out _).mono ?_); rintro e w' ⟨rfl, rfl⟩)
        | ((go_at_call 20; with_reducible refine (HL.out _).mono ?_); rintro e w' ⟨rfl, rfl⟩)
        | ((go_at_call 20; with_reducible refine (HR.out _).mono ?_); rintro e w' ⟨rfl, rfl⟩)
        | ((go_at_call 19; with_reducible refine (HE.out _).mono ?_); rintro e w' ⟨rfl, rfl⟩)
        | ((go_at_call 15; with_reducible refine (HK.out _).mono ?_); rintro e w' ⟨rfl, rfl⟩)
        | ((go_at_call 15; with_reducible refine (HKQ.out _).mono ?_); rintro e w' ⟨rfl, rfl⟩)
        | ((go_at_call 20; with_reducible refine (HS.out _).mono ?_); rintro e w' ⟨rfl, rfl⟩))
      go_ret
      exact ⟨rfl, HB1.out⟩
end Go.Proofs.YthpmhjlndnelfaaDoor.Real
