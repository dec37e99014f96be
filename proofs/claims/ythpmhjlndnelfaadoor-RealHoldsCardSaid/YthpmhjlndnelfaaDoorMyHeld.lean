/- RealHeld: the walk of the law. The conditions: 64 bits; the tables are laid. -/
import Derived.Test.YthpmhjlndnelfaaDoorMyHold
import Derived.Test.YthpmhjlndnelfaaDoorMyAwake
namespace Go.Proofs.YthpmhjlndnelfaaDoor.Real
open Go.RowKit Go.Lib Go.Proofs.YthpmhjlndnelfaaDoorW.PrintWords

theorem lo_self (x : Nat) : foldR lo [x, x] = x := by
  show lo x x = x
  unfold lo
  split <;> rfl

/-- What the law asks of a number held. -/
theorem held_facts (x l h : Nat) (hlh : cp l h ≤ 0) : ∃ r : Nat, hd x l h = r ∧ hd r l h = r ∧ cp l r ≤ 0 ∧ cp r h ≤ 0 ∧ (cp x l < 0 ∨ ¬ cp x l < 0 ∧ cp x h > 0 ∨ ¬ cp x l < 0 ∧ ¬ cp x h > 0 ∧ r = x) ∧ (r = x ∨ r = l ∨ r = h) := by
  have a1 := cp_le l h
  have a2 := cp_lt x l
  have a3 := cp_gt x h
  by_cases h1 : cp x l < 0
  · refine ⟨l, by unfold hd; rw [if_pos h1], ?_, by rw [cp_self]; omega, hlh, .inl h1, .inr (.inl rfl)⟩
    unfold hd
    rw [cp_self, if_neg (by omega), if_neg (by omega)]
  · by_cases h2 : cp x h > 0
    · refine ⟨h, by unfold hd; rw [if_neg h1, if_pos h2], ?_, hlh, by rw [cp_self]; omega, .inr (.inl ⟨h1, h2⟩), .inr (.inr rfl)⟩
      have a4 := cp_lt h l
      unfold hd
      rw [if_neg (by omega), cp_self, if_neg (by omega)]
    · refine ⟨x, by unfold hd; rw [if_neg h1, if_neg h2], by unfold hd; rw [if_neg h1, if_neg h2], ?_, by omega, .inr (.inr ⟨h1, h2, rfl⟩), .inl rfl⟩
      rw [cp_le]
      omega

set_option maxRecDepth 30000 in
set_option maxHeartbeats 4000000 in
theorem held_walk (x l h : Nat) (A : Option Addr) (fs : List Nat) (c : Nat) (w : World) (hx : x < 18446744073709551616) (hl : l < 18446744073709551616) (hh : h < 18446744073709551616)
    (ta : Flts w A fs) (hm : fs.length ≤ 50) (hlh : cp l h ≤ 0) (ht : Tabs w) :
    Calls Tryd.prog 9 #[.float .f64 x, .float .f64 l, .float .f64 h, .slice A fs.length c] w fun e w' => e = .returned (.bool true) ∧ Below w.heap.size w w' := by
  have HT := Aside0.mk ht
  have TA := Aside0.mk ta
  obtain ⟨r, e1, e2, e3, e4, e5, e6⟩ := held_facts x l h hlh
  have hr : r < 18446744073709551616 := by rcases e6 with rfl | rfl | rfl <;> assumption
  have hf := least_most fs
  obtain ⟨p, hp⟩ : ∃ p, foldR lo fs = p := ⟨_, rfl⟩
  obtain ⟨q, hq⟩ : ∃ p, foldR hi fs = p := ⟨_, rfl⟩
  have hpb : p < 18446744073709551616 := hp ▸ ta.fold lo lo_or
  have hqb : q < 18446744073709551616 := hq ▸ ta.fold hi hi_or
  rw [hp, hq] at hf
  have HL := Aside0.mk (fun W (t : Flts W A fs) => hp ▸ least_any A fs c W (by omega) t)
  have HM := Aside0.mk (fun W (t : Flts W A fs) => hq ▸ most_any A fs c W (by omega) t)
  obtain ⟨k0, g0⟩ : ∃ k, cp l h = k := ⟨_, rfl⟩
  obtain ⟨k1, g1⟩ : ∃ k, cp l r = k := ⟨_, rfl⟩
  obtain ⟨k2, g2⟩ : ∃ k, cp r h = k := ⟨_, rfl⟩
  obtain ⟨k3, g3⟩ : ∃ k, cp x l = k := ⟨_, rfl⟩
  obtain ⟨k4, g4⟩ : ∃ k, cp x h = k := ⟨_, rfl⟩
  obtain ⟨k5, g5⟩ : ∃ k, cp p q = k := ⟨_, rfl⟩
  have H0 := Aside0.mk (cmp_at l h k0 hl hh g0)
  have H1 := Aside0.mk (cmp_at l r k1 hl hr g1)
  have H2 := Aside0.mk (cmp_at r h k2 hr hh g2)
  have H3 := Aside0.mk (cmp_at x l k3 hx hl g3)
  have H4 := Aside0.mk (cmp_at x h k4 hx hh g4)
  have H5 := Aside0.mk (cmp_at p q k5 hpb hqb g5)
  have HH := Aside0.mk (hold_at x l h r hx hl hh e1)
  have HR := Aside0.mk (hold_at r l h r hr hl hh e2)
  have HS := Aside0.mk (same_at r r 0 hr hr (cp_self r))
  have HX := Aside0.mk (same_at x x 0 hx hx (cp_self x))
  have HN : Aside0 (∀ W : World, Calls Tryd.prog 34 #[.slice (some ⟨W.heap.size, 0, none⟩) 2 2] (W.alloc (.cells #[.float .f64 x, .float .f64 x] 22)) fun e w' => e = .returned (.float .f64 x) ∧ (W.alloc (.cells #[.float .f64 x, .float .f64 x] 22)) = w') := ⟨fun W => by
    have := least_any (some ⟨W.heap.size, 0, none⟩) [x, x] 2 (W.alloc (.cells #[.float .f64 x, .float .f64 x] 22)) (by simp) (by
      have hb := blk_new W (.cells #[.float .f64 x, .float .f64 x] 22)
      intro i b hi
      match i, hi with
      | 0, hi => obtain rfl : x = b := by simpa using hi
                 exact ⟨hx, _, rfl, by rw [YthpmhjlndnelfaaDoorW.PrintWords.add_plain]; exact (blk_cell hb 0).trans rfl⟩
      | 1, hi => obtain rfl : x = b := by simpa using hi
                 exact ⟨hx, _, rfl, by rw [YthpmhjlndnelfaaDoorW.PrintWords.add_plain]; exact (blk_cell hb 1).trans rfl⟩
      | i + 2, hi => simp at hi)
    rw [lo_self] at this
    exact this⟩
  rw [g0] at hlh
  rw [g1] at e3
  rw [g2] at e4
  rw [g3, g4] at e5
  rw [g5] at hf
  have d0 : decide (k0 > 0) = false := decide_eq_false (by omega)
  have d1 : decide (k1 ≤ 0) = true := decide_eq_true e3
  have d2 : decide (k2 ≤ 0) = true := decide_eq_true e4
  have d5 : decide (k5 ≤ 0) = true := decide_eq_true hf
  have hl' : (fs.length : Int) ≤ 50 := by omega
  clear ta ht hlh e1 e2 e3 e6 hf hp hq hpb hqb g0 g1 g2 g3 g4 g5 hx hl hh hr hm
  generalize fs.length = L at *
  rcases e5 with e5 | ⟨e5, e7⟩ | ⟨e5, e7, e8⟩
  · have d3 : decide (k3 < 0) = true := decide_eq_true e5
    clear e5 e4
    go_enter Tryd.func9, Tryd.ntmps9
    go_wp2_with (first
      | (go_at_call 14; refine (awake02 _ HT.out).mono ?_; rintro e w1 ⟨rfl, hb1⟩; have HB1 := Aside0.mk hb1; clear hb1)
      | ((go_at_call 16; with_reducible refine (H0.out _).mono ?_); rintro e w' ⟨rfl, rfl⟩)
      | ((go_at_call 16; with_reducible refine (H1.out _).mono ?_); rintro e w' ⟨rfl, rfl⟩)
      | ((go_at_call 16; with_reducible refine (H2.out _).mono ?_); rintro e w' ⟨rfl, rfl⟩)
      | ((go_at_call 16; with_reducible refine (H3.out _).mono ?_); rintro e w' ⟨rfl, rfl⟩)
      | ((go_at_call 16; with_reducible refine (H4.out _).mono ?_); rintro e w' ⟨rfl, rfl⟩)
      | ((go_at_call 16; with_reducible refine (H5.out _).mono ?_); rintro e w' ⟨rfl, rfl⟩)
      | ((go_at_call 33; with_reducible refine (HH.out _).mono ?_); rintro e w' ⟨rfl, rfl⟩)
      | ((go_at_call 33; with_reducible refine (HR.out _).mono ?_); rintro e w' ⟨rfl, rfl⟩)
      | ((go_at_call 34; with_reducible refine (HL.out _ (TA.out.below HB1.out)).mono ?_); rintro e w' ⟨rfl, rfl⟩)
      | ((go_at_call 35; with_reducible refine (HM.out _ (TA.out.below HB1.out)).mono ?_); rintro e w' ⟨rfl, rfl⟩)
      | ((go_at_call 34; with_reducible refine (HN.out _).mono ?_); rintro e w' ⟨rfl, rfl⟩)
      | ((go_at_call 19; with_reducible refine (HS.out _).mono ?_); rintro e w' ⟨rfl, rfl⟩)
      | ((go_at_call 19; with_reducible refine (HX.out _).mono ?_); rintro e w' ⟨rfl, rfl⟩))
    go_ret
    exact ⟨rfl, below_alloc HB1.out _⟩
  · have d3 : decide (k3 < 0) = false := decide_eq_false e5
    have d4 : decide (k4 > 0) = true := decide_eq_true e7
    clear e5 e7 e4
    go_enter Tryd.func9, Tryd.ntmps9
    go_wp2_with (first
      | (go_at_call 14; refine (awake02 _ HT.out).mono ?_; rintro e w1 ⟨rfl, hb1⟩; have HB1 := Aside0.mk hb1; clear hb1)
      | ((go_at_call 16; with_reducible refine (H0.out _).mono ?_); rintro e w' ⟨rfl, rfl⟩)
      | ((go_at_call 16; with_reducible refine (H1.out _).mono ?_); rintro e w' ⟨rfl, rfl⟩)
      | ((go_at_call 16; with_reducible refine (H2.out _).mono ?_); rintro e w' ⟨rfl, rfl⟩)
      | ((go_at_call 16; with_reducible refine (H3.out _).mono ?_); rintro e w' ⟨rfl, rfl⟩)
      | ((go_at_call 16; with_reducible refine (H4.out _).mono ?_); rintro e w' ⟨rfl, rfl⟩)
      | ((go_at_call 16; with_reducible refine (H5.out _).mono ?_); rintro e w' ⟨rfl, rfl⟩)
      | ((go_at_call 33; with_reducible refine (HH.out _).mono ?_); rintro e w' ⟨rfl, rfl⟩)
      | ((go_at_call 33; with_reducible refine (HR.out _).mono ?_); rintro e w' ⟨rfl, rfl⟩)
      | ((go_at_call 34; with_reducible refine (HL.out _ (TA.out.below HB1.out)).mono ?_); rintro e w' ⟨rfl, rfl⟩)
      | ((go_at_call 35; with_reducible refine (HM.out _ (TA.out.below HB1.out)).mono ?_); rintro e w' ⟨rfl, rfl⟩)
      | ((go_at_call 34; with_reducible refine (HN.out _).mono ?_); rintro e w' ⟨rfl, rfl⟩)
      | ((go_at_call 19; with_reducible refine (HS.out _).mono ?_); rintro e w' ⟨rfl, rfl⟩)
      | ((go_at_call 19; with_reducible refine (HX.out _).mono ?_); rintro e w' ⟨rfl, rfl⟩))
    go_ret
    exact ⟨rfl, below_alloc HB1.out _⟩
  · subst e8
    have d3 : decide (k3 < 0) = false := decide_eq_false e5
    have d4 : decide (k4 > 0) = false := decide_eq_false e7
    have d6 : decide (k2 > 0) = false := decide_eq_false (by omega)
    clear e5 e7 e4
    go_enter Tryd.func9, Tryd.ntmps9
    go_wp2_with (first
      | (go_at_call 14; refine (awake02 _ HT.out).mono ?_; rintro e w1 ⟨rfl, hb1⟩; have HB1 := Aside0.mk hb1; clear hb1)
      | ((go_at_call 16; with_reducible refine (H0.out _).mono ?_); rintro e w' ⟨rfl, rfl⟩)
      | ((go_at_call 16; with_reducible refine (H1.out _).mono ?_); rintro e w' ⟨rfl, rfl⟩)
      | ((go_at_call 16; with_reducible refine (H2.out _).mono ?_); rintro e w' ⟨rfl, rfl⟩)
      | ((go_at_call 16; with_reducible refine (H3.out _).mono ?_); rintro e w' ⟨rfl, rfl⟩)
      | ((go_at_call 16; with_reducible refine (H4.out _).mono ?_); rintro e w' ⟨rfl, rfl⟩)
      | ((go_at_call 16; with_reducible refine (H5.out _).mono ?_); rintro e w' ⟨rfl, rfl⟩)
      | ((go_at_call 33; with_reducible refine (HH.out _).mono ?_); rintro e w' ⟨rfl, rfl⟩)
      | ((go_at_call 33; with_reducible refine (HR.out _).mono ?_); rintro e w' ⟨rfl, rfl⟩)
      | ((go_at_call 34; with_reducible refine (HL.out _ (TA.out.below HB1.out)).mono ?_); rintro e w' ⟨rfl, rfl⟩)
      | ((go_at_call 35; with_reducible refine (HM.out _ (TA.out.below HB1.out)).mono ?_); rintro e w' ⟨rfl, rfl⟩)
      | ((go_at_call 34; with_reducible refine (HN.out _).mono ?_); rintro e w' ⟨rfl, rfl⟩)
      | ((go_at_call 19; with_reducible refine (HS.out _).mono ?_); rintro e w' ⟨rfl, rfl⟩)
      | ((go_at_call 19; with_reducible refine (HX.out _).mono ?_); rintro e w' ⟨rfl, rfl⟩))
    go_ret
    exact ⟨rfl, below_alloc HB1.out _⟩

set_option maxRecDepth 30000 in
theorem held_long (x l h : Nat) (A : Option Addr) (L c : Nat) (w : World) (hl : l < 18446744073709551616) (hh : h < 18446744073709551616) (hm : 50 < (L : Int) ∨ (L : Int) ≤ 50 ∧ cp l h > 0) (ht : Tabs w) :
    Calls Tryd.prog 9 #[.float .f64 x, .float .f64 l, .float .f64 h, .slice A L c] w fun e w' => e = .returned (.bool true) ∧ Below w.heap.size w w' := by
  have HT := Aside0.mk ht
  obtain ⟨k0, g0⟩ : ∃ k, cp l h = k := ⟨_, rfl⟩
  have H0 := Aside0.mk (cmp_at l h k0 hl hh g0)
  rw [g0] at hm
  clear ht g0 hl hh
  rcases hm with hm | ⟨hm, h2⟩
  · have g1 : decide ((L : Int) > 50) = true := decide_eq_true hm
    go_enter Tryd.func9, Tryd.ntmps9
    go_wp2_with (first | (go_at_call 14; refine (awake02 _ HT.out).mono ?_; rintro e w1 ⟨rfl, hb1⟩; have HB1 := Aside0.mk hb1; clear hb1) | ((go_at_call 16; with_reducible refine (H0.out _).mono ?_); rintro e w' ⟨rfl, rfl⟩))
    go_ret
    exact ⟨rfl, HB1.out⟩
  · have d0 : decide (k0 > 0) = true := decide_eq_true h2
    clear h2
    go_enter Tryd.func9, Tryd.ntmps9
    go_wp2_with (first | (go_at_call 14; refine (awake02 _ HT.out).mono ?_; rintro e w1 ⟨rfl, hb1⟩; have HB1 := Aside0.mk hb1; clear hb1) | ((go_at_call 16; with_reducible refine (H0.out _).mono ?_); rintro e w' ⟨rfl, rfl⟩))
    go_ret
    exact ⟨rfl, HB1.out⟩

theorem held_row (w : World) (x l h : Nat) (A : Option Addr) (fs : List Nat) (c : Nat) (hx : x < 18446744073709551616) (hl : l < 18446744073709551616) (hh : h < 18446744073709551616)
    (ta : Flts w A fs) (_ : fs.length ≤ maxLen) (_ : fs.length ≤ c) (ht : Tabs w) :
    Calls Tryd.prog 9 #[.float .f64 x, .float .f64 l, .float .f64 h, .slice A fs.length c] w fun e w' => e = .returned (.bool true) ∧ Below w.heap.size w w' := by
  by_cases h1 : fs.length ≤ 50 ∧ cp l h ≤ 0
  · exact held_walk x l h A fs c w hx hl hh ta h1.1 h1.2 ht
  · exact held_long x l h A fs.length c w hl hh (by omega) ht
end Go.Proofs.YthpmhjlndnelfaaDoor.Real
