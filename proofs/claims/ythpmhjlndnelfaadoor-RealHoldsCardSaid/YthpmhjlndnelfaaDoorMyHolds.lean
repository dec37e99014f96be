/- RealHolds: the walk of the law. The conditions: 64 bits; the tables are laid. -/
import Derived.Test.YthpmhjlndnelfaaDoorMyHeld
import Derived.Test.YthpmhjlndnelfaaDoorMyRWhole
namespace Go.Proofs.YthpmhjlndnelfaaDoor.Real
open Go.RowKit Go.Lib Go.Proofs.YthpmhjlndnelfaaDoorW.PrintWords

def BothRel (l : List Nat) (a b i : Value) : Prop := ∃ k : Nat, k ≤ l.length ∧ a = .float .f64 (foldR lo (l.take k)) ∧ b = .float .f64 (foldR hi (l.take k)) ∧ i = .int .i64 (k : Int)

/-- The quotient: none, or a number. -/
theorem fold_one (f : Nat → Nat → Nat) (l : List Nat) (h : 0 < l.length) : foldR f (l.take (0 + 1)) = l[0] := by
  cases l with
  | nil => simp at h
  | cons x l => rfl

theorem bel_on {w W W' : World} (h : Below w.heap.size w W) (hb : Below W.drew.heap.size W.drew W') : Below w.heap.size w W' := (below_drew1 h).trans (hb.mono (below_drew1 h).size)

set_option maxRecDepth 30000 in
set_option maxHeartbeats 8000000 in
theorem holds_none (A : Option Addr) (l : List Nat) (c x low high m : Nat) (w : World) (hx : x < 18446744073709551616) (hl : low < 18446744073709551616) (hh : high < 18446744073709551616) (d1 : Ieee.double.div x low = none)
    (ta : Flts w A l) (hm : l.length ≤ 50) (ht : Tabs w) :
    Calls Tryd.prog 12 #[.slice A l.length c, .float .f64 x, .float .f64 low, .float .f64 high, .int .u64 (m : Int)] w fun e w' => e = .returned (.bool true) ∧ Below w.heap.size w w' := by
  have HT := Aside0.mk ht
  have TA := Aside0.mk ta
  have hd1 := fun W => run_div_none x low d1 W
  have hne : ∀ (W : World), (FloatKind.f64.format.order (nanC W x low) (nanC W x low) != some Ordering.eq) = true := fun W => by rw [f64, order_nan_left _ _ (nanC_lt W x low) (nanC_nan W x low)]; rfl
  have HQ := Aside0.mk (ratio_none x low d1)
  have HST := Aside0.mk (same_at 0 0 0 (by omega) (by omega) (cp_self 0))
  have HK := Aside0.mk (kind_at 0 4 (by omega) (by decide +kernel))
  obtain ⟨p, hp⟩ : ∃ p, foldR lo l = p := ⟨_, rfl⟩
  obtain ⟨q, hq⟩ : ∃ p, foldR hi l = p := ⟨_, rfl⟩
  have hpb : p < 18446744073709551616 := hp ▸ ta.fold lo lo_or
  have hqb : q < 18446744073709551616 := hq ▸ ta.fold hi hi_or
  have HL := Aside0.mk (fun W (t : Flts W A l) => hp ▸ least_any A l c W (by omega) t)
  have HM := Aside0.mk (fun W (t : Flts W A l) => hq ▸ most_any A l c W (by omega) t)
  have HSP := Aside0.mk (same_at p p 0 hpb hpb (cp_self p))
  have HSQ := Aside0.mk (same_at q q 0 hqb hqb (cp_self q))
  have HPQ := Aside0.mk (And.intro hp hq)
  obtain ⟨k3, g3⟩ : ∃ k, cp x low = k := ⟨_, rfl⟩
  obtain ⟨k4, g4⟩ : ∃ k, cp x high = k := ⟨_, rfl⟩
  obtain ⟨r, hr⟩ : ∃ r, hd x low high = r := ⟨_, rfl⟩
  have hrb : r < 18446744073709551616 := by
    rw [← hr]
    unfold hd
    split
    · exact hl
    · split
      · exact hh
      · exact hx
  have H3 := Aside0.mk (rcmp_at x low k3 hx hl g3)
  have H4 := Aside0.mk (rcmp_at x high k4 hx hh g4)
  have HH := Aside0.mk (hold_at x low high r hx hl hh hr)
  have HSR := Aside0.mk (same_at r r 0 hrb hrb (cp_self r))
  obtain ⟨n, hn⟩ : ∃ n, wh x m = n := ⟨_, rfl⟩
  have HW := Aside0.mk (whole_at x m n hx hn)
  have HV := Aside0.mk (rwhole_at x m n hx hn)
  have hnn : ((n : Int) == (n : Int)) = true := beq_self_eq_true _
  have HR : Aside0 (k3 < 0 ∧ r = low ∨ ¬ k3 < 0 ∧ k4 > 0 ∧ r = high ∨ ¬ k3 < 0 ∧ ¬ k4 > 0 ∧ r = x) := ⟨by
    rw [← g3, ← g4, ← hr]
    unfold hd
    split
    · exact .inl ⟨by assumption, rfl⟩
    · split
      · exact .inr (.inl ⟨by assumption, by assumption, rfl⟩)
      · exact .inr (.inr ⟨by assumption, by assumption, rfl⟩)⟩
  have hl' : (l.length : Int) ≤ 50 := by omega
  clear ta ht hp hq hpb hqb g3 g4 hr hrb hn hx hl hh hm d1
  go_enter Tryd.func12, Tryd.ntmps12
  go_wp2_with (first
    | (go_at_call 14; refine (awake02 _ HT.out).mono ?_; rintro e w1 ⟨rfl, hb1⟩; have HB1 := Aside0.mk hb1; clear hb1)
    | (go_at_call 50; refine (nan50' _).mono ?_; rintro e w' ⟨rfl, rfl⟩))
  go_loop [11, 12, 26] (fun a b i => BothRel l a b i) (fun _ _ i => l.length - (RowKit.intOf i).toNat)
  case atStart => exact ⟨0, Nat.zero_le _, rfl, rfl, rfl⟩
  case round =>
    obtain ⟨k, hk, rfl, rfl, rfl⟩ := hrel
    by_cases hlt : k < l.length
    · obtain ⟨y1, ad, rfl, hy0⟩ := TA.out k l[k] (List.getElem?_eq_getElem hlt)
      have hy := pw_cell_below HB1.out hy0
      clear hy0
      by_cases hk0 : k = 0
      · subst hk0
        have F1 := Aside0.mk (fold_one lo l hlt)
        have F2 := Aside0.mk (fold_one hi l hlt)
        generalize l[0] = y at *
        have hy1 : w1.cell? ad = some (.float .f64 y) := by simpa [Addr.add] using hy
        clear hy
        go_wp2
        go_round
        case rel => exact ⟨0 + 1, hlt, by rw [F1.out], by rw [F2.out], by go_num⟩
        case measure => simp [RowKit.intOf]; omega
      · have F1 := foldR_take lo l k (by omega) hlt
        have F2 := foldR_take hi l k (by omega) hlt
        have m1 := (TA.out.take k).fold lo lo_or
        have m2 := (TA.out.take k).fold hi hi_or
        generalize l[k] = y at *
        generalize foldR lo (l.take k) = M at *
        generalize foldR hi (l.take k) = K at *
        obtain ⟨r1, hr1⟩ : ∃ r, cp y M = r := ⟨_, rfl⟩
        obtain ⟨r2, hr2⟩ : ∃ r, cp y K = r := ⟨_, rfl⟩
        have C1 := Aside0.mk (rcmp_at y M r1 y1 m1 hr1)
        have C2 := Aside0.mk (rcmp_at y K r2 y1 m2 hr2)
        have hkz : ((k : Int) == 0) = false := beq_eq_false_iff_ne.2 (by omega)
        have L1 : lo M y = if r1 < 0 then y else M := by rw [← hr1]; rfl
        have L2 : hi K y = if r2 > 0 then y else K := by rw [← hr2]; rfl
        rw [L1] at F1
        rw [L2] at F2
        clear hr1 hr2 y1 m1 m2 L1 L2
        by_cases q1 : r1 < 0 <;> by_cases q2 : r2 > 0
        all_goals
          first | rw [if_pos q1] at F1 | rw [if_neg q1] at F1
          first | rw [if_pos q2] at F2 | rw [if_neg q2] at F2
          first | have b1 : decide (r1 < 0) = true := decide_eq_true q1 | have b1 : decide (r1 < 0) = false := decide_eq_false q1
          first | have b2 : decide (r2 > 0) = true := decide_eq_true q2 | have b2 : decide (r2 > 0) = false := decide_eq_false q2
          have G1 := Aside0.mk F1
          have G2 := Aside0.mk F2
          clear F1 F2 q1 q2
          go_wp2_with (first | ((go_at_call 18; with_reducible refine (C1.out _).mono ?_); rintro e w' ⟨rfl, rfl⟩) | ((go_at_call 18; with_reducible refine (C2.out _).mono ?_); rintro e w' ⟨rfl, rfl⟩))
          go_round
          case rel => exact ⟨k + 1, hlt, by rw [G1.out], by rw [G2.out], by go_num⟩
          case measure => simp [RowKit.intOf]; omega
    · obtain rfl : k = l.length := by omega
      rw [List.take_length, HPQ.out.1, HPQ.out.2]
      clear hlt hk
      generalize l.length = L at *
      rcases HR.out with ⟨q1, rfl⟩ | ⟨q1, q2, rfl⟩ | ⟨q1, q2, rfl⟩
      all_goals
        first | have b1 : decide (k3 < 0) = true := decide_eq_true (by omega) | have b1 : decide (k3 < 0) = false := decide_eq_false (by omega)
        try (first | have b2 : decide (k4 > 0) = true := decide_eq_true (by omega) | have b2 : decide (k4 > 0) = false := decide_eq_false (by omega))
        clear HR q1
        try clear q2
        go_wp2_with (first
          | ((go_at_call 18; with_reducible refine (H3.out _).mono ?_); rintro e w' ⟨rfl, rfl⟩)
          | ((go_at_call 18; with_reducible refine (H4.out _).mono ?_); rintro e w' ⟨rfl, rfl⟩)
          | ((go_at_call 34; with_reducible refine (HL.out _ (by first | exact TA.out.below HB1.out | exact TA.out.below (below_drew1 HB1.out))).mono ?_); rintro e w' ⟨rfl, rfl⟩)
          | ((go_at_call 35; with_reducible refine (HM.out _ (by first | exact TA.out.below HB1.out | exact TA.out.below (below_drew1 HB1.out))).mono ?_); rintro e w' ⟨rfl, rfl⟩)
          | ((go_at_call 33; with_reducible refine (HH.out _).mono ?_); rintro e w' ⟨rfl, rfl⟩)
          | ((go_at_call 21; with_reducible refine (HW.out _).mono ?_); rintro e w' ⟨rfl, rfl⟩)
          | ((go_at_call 51; with_reducible refine (HV.out _).mono ?_); rintro e w' ⟨rfl, rfl⟩)
          | ((go_at_call 20; with_reducible refine (HQ.out _).mono ?_); rintro e e5 ⟨rfl, hb5⟩; have HBn : Aside0 (Below w.heap.size w e5) := Aside0.mk (by first | exact bel_on HB1.out hb5 | exact HB1.out.trans (hb5.mono HB1.out.size)); clear hb5 HB1; have HB1 := HBn; clear HBn)
          | ((go_at_call 15; with_reducible refine (HK.out _).mono ?_); rintro e w' ⟨rfl, rfl⟩)
          | ((go_at_call 19; with_reducible refine (HSP.out _).mono ?_); rintro e w' ⟨rfl, rfl⟩)
          | ((go_at_call 19; with_reducible refine (HSQ.out _).mono ?_); rintro e w' ⟨rfl, rfl⟩)
          | ((go_at_call 19; with_reducible refine (HSR.out _).mono ?_); rintro e w' ⟨rfl, rfl⟩)
          | ((go_at_call 19; with_reducible refine (HST.out _).mono ?_); rintro e w' ⟨rfl, rfl⟩))
        go_ret
        exact ⟨rfl, HB1.out⟩

set_option maxRecDepth 30000 in
set_option maxHeartbeats 8000000 in
theorem holds_some (A : Option Addr) (l : List Nat) (c x low high m : Nat) (w : World) (hx : x < 18446744073709551616) (hl : low < 18446744073709551616) (hh : high < 18446744073709551616) (t : Nat) (d1 : Ieee.double.div x low = some t) (d4 : t < 18446744073709551616) (d5 : nan t = false)
    (ta : Flts w A l) (hm : l.length ≤ 50) (ht : Tabs w) :
    Calls Tryd.prog 12 #[.slice A l.length c, .float .f64 x, .float .f64 low, .float .f64 high, .int .u64 (m : Int)] w fun e w' => e = .returned (.bool true) ∧ Below w.heap.size w w' := by
  have HT := Aside0.mk ht
  have TA := Aside0.mk ta
  have hd1 := fun W => run_div x low t d1 W
  have hqq := t_nan t d4
  rw [d5] at hqq
  have HQ := Aside0.mk (ratio_some x low t d1 d4 d5)
  have HST := Aside0.mk (same_at t t 0 d4 d4 (cp_self t))
  obtain ⟨kq, hkq⟩ : ∃ k, kd t = k := ⟨_, rfl⟩
  have HK := Aside0.mk (kind_at t kq d4 hkq)
  have hkq0 : (kq == 0) = false := beq_eq_false_iff_ne.2 (fun e => by have := (kd_nan t).1 (hkq.trans e); rw [d5] at this; cases this)
  have hkq1 : (kq != 0) = true := by rw [bne, hkq0]; rfl
  clear hkq d4 d5
  obtain ⟨p, hp⟩ : ∃ p, foldR lo l = p := ⟨_, rfl⟩
  obtain ⟨q, hq⟩ : ∃ p, foldR hi l = p := ⟨_, rfl⟩
  have hpb : p < 18446744073709551616 := hp ▸ ta.fold lo lo_or
  have hqb : q < 18446744073709551616 := hq ▸ ta.fold hi hi_or
  have HL := Aside0.mk (fun W (t : Flts W A l) => hp ▸ least_any A l c W (by omega) t)
  have HM := Aside0.mk (fun W (t : Flts W A l) => hq ▸ most_any A l c W (by omega) t)
  have HSP := Aside0.mk (same_at p p 0 hpb hpb (cp_self p))
  have HSQ := Aside0.mk (same_at q q 0 hqb hqb (cp_self q))
  have HPQ := Aside0.mk (And.intro hp hq)
  obtain ⟨k3, g3⟩ : ∃ k, cp x low = k := ⟨_, rfl⟩
  obtain ⟨k4, g4⟩ : ∃ k, cp x high = k := ⟨_, rfl⟩
  obtain ⟨r, hr⟩ : ∃ r, hd x low high = r := ⟨_, rfl⟩
  have hrb : r < 18446744073709551616 := by
    rw [← hr]
    unfold hd
    split
    · exact hl
    · split
      · exact hh
      · exact hx
  have H3 := Aside0.mk (rcmp_at x low k3 hx hl g3)
  have H4 := Aside0.mk (rcmp_at x high k4 hx hh g4)
  have HH := Aside0.mk (hold_at x low high r hx hl hh hr)
  have HSR := Aside0.mk (same_at r r 0 hrb hrb (cp_self r))
  obtain ⟨n, hn⟩ : ∃ n, wh x m = n := ⟨_, rfl⟩
  have HW := Aside0.mk (whole_at x m n hx hn)
  have HV := Aside0.mk (rwhole_at x m n hx hn)
  have hnn : ((n : Int) == (n : Int)) = true := beq_self_eq_true _
  have HR : Aside0 (k3 < 0 ∧ r = low ∨ ¬ k3 < 0 ∧ k4 > 0 ∧ r = high ∨ ¬ k3 < 0 ∧ ¬ k4 > 0 ∧ r = x) := ⟨by
    rw [← g3, ← g4, ← hr]
    unfold hd
    split
    · exact .inl ⟨by assumption, rfl⟩
    · split
      · exact .inr (.inl ⟨by assumption, by assumption, rfl⟩)
      · exact .inr (.inr ⟨by assumption, by assumption, rfl⟩)⟩
  have hl' : (l.length : Int) ≤ 50 := by omega
  clear ta ht hp hq hpb hqb g3 g4 hr hrb hn hx hl hh hm d1
  go_enter Tryd.func12, Tryd.ntmps12
  go_wp2_with (first
    | (go_at_call 14; refine (awake02 _ HT.out).mono ?_; rintro e w1 ⟨rfl, hb1⟩; have HB1 := Aside0.mk hb1; clear hb1)
    | (go_at_call 50; refine (nan50' _).mono ?_; rintro e w' ⟨rfl, rfl⟩))
  go_loop [11, 12, 26] (fun a b i => BothRel l a b i) (fun _ _ i => l.length - (RowKit.intOf i).toNat)
  case atStart => exact ⟨0, Nat.zero_le _, rfl, rfl, rfl⟩
  case round =>
    obtain ⟨k, hk, rfl, rfl, rfl⟩ := hrel
    by_cases hlt : k < l.length
    · obtain ⟨y1, ad, rfl, hy0⟩ := TA.out k l[k] (List.getElem?_eq_getElem hlt)
      have hy := pw_cell_below HB1.out hy0
      clear hy0
      by_cases hk0 : k = 0
      · subst hk0
        have F1 := Aside0.mk (fold_one lo l hlt)
        have F2 := Aside0.mk (fold_one hi l hlt)
        generalize l[0] = y at *
        have hy1 : w1.cell? ad = some (.float .f64 y) := by simpa [Addr.add] using hy
        clear hy
        go_wp2
        go_round
        case rel => exact ⟨0 + 1, hlt, by rw [F1.out], by rw [F2.out], by go_num⟩
        case measure => simp [RowKit.intOf]; omega
      · have F1 := foldR_take lo l k (by omega) hlt
        have F2 := foldR_take hi l k (by omega) hlt
        have m1 := (TA.out.take k).fold lo lo_or
        have m2 := (TA.out.take k).fold hi hi_or
        generalize l[k] = y at *
        generalize foldR lo (l.take k) = M at *
        generalize foldR hi (l.take k) = K at *
        obtain ⟨r1, hr1⟩ : ∃ r, cp y M = r := ⟨_, rfl⟩
        obtain ⟨r2, hr2⟩ : ∃ r, cp y K = r := ⟨_, rfl⟩
        have C1 := Aside0.mk (rcmp_at y M r1 y1 m1 hr1)
        have C2 := Aside0.mk (rcmp_at y K r2 y1 m2 hr2)
        have hkz : ((k : Int) == 0) = false := beq_eq_false_iff_ne.2 (by omega)
        have L1 : lo M y = if r1 < 0 then y else M := by rw [← hr1]; rfl
        have L2 : hi K y = if r2 > 0 then y else K := by rw [← hr2]; rfl
        rw [L1] at F1
        rw [L2] at F2
        clear hr1 hr2 y1 m1 m2 L1 L2
        by_cases q1 : r1 < 0 <;> by_cases q2 : r2 > 0
        all_goals
          first | rw [if_pos q1] at F1 | rw [if_neg q1] at F1
          first | rw [if_pos q2] at F2 | rw [if_neg q2] at F2
          first | have b1 : decide (r1 < 0) = true := decide_eq_true q1 | have b1 : decide (r1 < 0) = false := decide_eq_false q1
          first | have b2 : decide (r2 > 0) = true := decide_eq_true q2 | have b2 : decide (r2 > 0) = false := decide_eq_false q2
          have G1 := Aside0.mk F1
          have G2 := Aside0.mk F2
          clear F1 F2 q1 q2
          go_wp2_with (first | ((go_at_call 18; with_reducible refine (C1.out _).mono ?_); rintro e w' ⟨rfl, rfl⟩) | ((go_at_call 18; with_reducible refine (C2.out _).mono ?_); rintro e w' ⟨rfl, rfl⟩))
          go_round
          case rel => exact ⟨k + 1, hlt, by rw [G1.out], by rw [G2.out], by go_num⟩
          case measure => simp [RowKit.intOf]; omega
    · obtain rfl : k = l.length := by omega
      rw [List.take_length, HPQ.out.1, HPQ.out.2]
      clear hlt hk
      generalize l.length = L at *
      rcases HR.out with ⟨q1, rfl⟩ | ⟨q1, q2, rfl⟩ | ⟨q1, q2, rfl⟩
      all_goals
        first | have b1 : decide (k3 < 0) = true := decide_eq_true (by omega) | have b1 : decide (k3 < 0) = false := decide_eq_false (by omega)
        try (first | have b2 : decide (k4 > 0) = true := decide_eq_true (by omega) | have b2 : decide (k4 > 0) = false := decide_eq_false (by omega))
        clear HR q1
        try clear q2
        go_wp2_with (first
          | ((go_at_call 18; with_reducible refine (H3.out _).mono ?_); rintro e w' ⟨rfl, rfl⟩)
          | ((go_at_call 18; with_reducible refine (H4.out _).mono ?_); rintro e w' ⟨rfl, rfl⟩)
          | ((go_at_call 34; with_reducible refine (HL.out _ (by first | exact TA.out.below HB1.out | exact TA.out.below (below_drew1 HB1.out))).mono ?_); rintro e w' ⟨rfl, rfl⟩)
          | ((go_at_call 35; with_reducible refine (HM.out _ (by first | exact TA.out.below HB1.out | exact TA.out.below (below_drew1 HB1.out))).mono ?_); rintro e w' ⟨rfl, rfl⟩)
          | ((go_at_call 33; with_reducible refine (HH.out _).mono ?_); rintro e w' ⟨rfl, rfl⟩)
          | ((go_at_call 21; with_reducible refine (HW.out _).mono ?_); rintro e w' ⟨rfl, rfl⟩)
          | ((go_at_call 51; with_reducible refine (HV.out _).mono ?_); rintro e w' ⟨rfl, rfl⟩)
          | ((go_at_call 20; with_reducible refine (HQ.out _).mono ?_); rintro e w' ⟨rfl, rfl⟩)
          | ((go_at_call 15; with_reducible refine (HK.out _).mono ?_); rintro e w' ⟨rfl, rfl⟩)
          | ((go_at_call 19; with_reducible refine (HSP.out _).mono ?_); rintro e w' ⟨rfl, rfl⟩)
          | ((go_at_call 19; with_reducible refine (HSQ.out _).mono ?_); rintro e w' ⟨rfl, rfl⟩)
          | ((go_at_call 19; with_reducible refine (HSR.out _).mono ?_); rintro e w' ⟨rfl, rfl⟩)
          | ((go_at_call 19; with_reducible refine (HST.out _).mono ?_); rintro e w' ⟨rfl, rfl⟩))
        go_ret
        exact ⟨rfl, HB1.out⟩

set_option maxRecDepth 30000 in
theorem holds_long (A : Option Addr) (L c x low high m : Nat) (w : World) (hm : 50 < (L : Int)) (ht : Tabs w) :
    Calls Tryd.prog 12 #[.slice A L c, .float .f64 x, .float .f64 low, .float .f64 high, .int .u64 (m : Int)] w fun e w' => e = .returned (.bool true) ∧ Below w.heap.size w w' := by
  have HT := Aside0.mk ht
  clear ht
  have g1 : decide ((L : Int) > 50) = true := decide_eq_true hm
  go_enter Tryd.func12, Tryd.ntmps12
  go_wp2_with (go_at_call 14; refine (awake02 _ HT.out).mono ?_; rintro e w1 ⟨rfl, hb1⟩; have HB1 := Aside0.mk hb1; clear hb1)
  go_ret
  exact ⟨rfl, HB1.out⟩

theorem holds_row (w : World) (A : Option Addr) (l : List Nat) (c x low high : Nat) (m : Int) (ta : Flts w A l) (_ : l.length ≤ maxLen) (_ : l.length ≤ c)
    (hx : x < 18446744073709551616) (hl : low < 18446744073709551616) (hh : high < 18446744073709551616) (hm : (Lit.int .u64 m).wf = true) (ht : Tabs w) :
    Calls Tryd.prog 12 #[.slice A l.length c, .float .f64 x, .float .f64 low, .float .f64 high, .int .u64 m] w fun e w' => e = .returned (.bool true) ∧ Below w.heap.size w w' := by
  have h1 := wf64n hm
  obtain ⟨m', rfl⟩ : ∃ k : Nat, m = k := ⟨m.toNat, by omega⟩
  by_cases h : l.length ≤ 50
  · rcases div_facts x low hx hl with ⟨d1, _, _⟩ | ⟨t, d1, _, _, d4, d5⟩
    · exact holds_none A l c x low high m' w hx hl hh d1 ta h ht
    · exact holds_some A l c x low high m' w hx hl hh t d1 d4 d5 ta h ht
  · exact holds_long A l.length c x low high m' w (by omega) ht
end Go.Proofs.YthpmhjlndnelfaaDoor.Real
