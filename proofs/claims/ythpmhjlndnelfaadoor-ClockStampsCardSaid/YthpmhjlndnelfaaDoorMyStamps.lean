/- ClockStamps: the walk of the law. The conditions: 64 bits; the tables are laid. -/
import Derived.Test.YthpmhjlndnelfaaDoorMySince
import Derived.Test.YthpmhjlndnelfaaDoorMyOrder
namespace Go.Proofs.YthpmhjlndnelfaaDoor.Real
open Go.RowKit Go.Lib Go.Proofs.YthpmhjlndnelfaaDoorW.PrintWords

theorem conv_stamp (n p : Nat) (h : p = n % 65536) (W : World) : (convert 29 32 (.int .u64 (n : Int))).run Tryd.prog W = .ok (.int .u16 (p : Int)) W := by
  have e : (p : Int) = IntKind.u16.wrap (n : Int) := by rw [u16_wrap]; omega
  rw [e]
  simp [convert, go_sem]

theorem ago_lt (n s : Nat) : agoOf n s < 65536 := Nat.mod_lt _ (by omega)
theorem ago_self (n : Nat) : agoOf n (stampOf n) = 0 := by unfold agoOf stampOf; omega

set_option maxHeartbeats 2000000 in
theorem stamps_long (n s : Nat) (A : Option Addr) (l : List Int) (c : Nat) (w : World) (ht : Tabs w) (hl : 100 < l.length) (hm : l.length ≤ 9223372036854775807) :
    Calls Tryd.prog 7 #[.int .u64 (n : Int), .int .u16 (s : Int), .slice A l.length c] w fun e w' => e = .returned (.bool true) ∧ Below w.heap.size w w' := by
  have HT := Aside0.mk ht
  clear ht
  go_enter Tryd.func7, Tryd.ntmps7
  go_wp2_with (go_at_call 22; refine (awake14 _ HT.out).mono ?_; rintro e w1 ⟨rfl, hb1⟩; have HB1 := Aside0.mk hb1; clear hb1)
  go_ret
  exact ⟨rfl, HB1.out⟩

theorem isnan_true {m : Nat} (h : MeanOf [] m) (w : World) : Calls Tryd.prog 27 #[.float .f64 m] w fun e w' => e = .returned (.bool true) ∧ w = w' := by
  rcases h with ⟨_, h1, h2⟩ | ⟨h1, _⟩
  · exact h1 ▸ isnan_any m h2 w
  · exact absurd rfl h1
theorem mean_is {l : List Int} {m q : Nat} (h0 : l ≠ []) (hd : Ieee.double.div (sumF l) (nr l.length 0) = some q) (h : MeanOf l m) : q = m := by
  rcases h with ⟨h1, _⟩ | ⟨_, h1, _⟩
  · exact absurd h1 h0
  · rw [hd] at h1
    exact Option.some.inj h1

set_option maxRecDepth 100000 in
set_option maxHeartbeats 4000000 in
theorem stamps_short (n s : Nat) (A : Option Addr) (l : List Int) (c : Nat) (w : World) (ht : Tabs w) (hn : n < 18446744073709551616) (hs : s < 65536) (hl : l.length ≤ 100) (hc : l.length ≤ c)
    (ta : Nums .u64 w A l) (wa : ∀ x ∈ l, 0 ≤ x) :
    Calls Tryd.prog 7 #[.int .u64 (n : Int), .int .u16 (s : Int), .slice A l.length c] w fun e w' => e = .returned (.bool true) ∧ Below w.heap.size w w' := by
  have HT := Aside0.mk ht
  have TA := Aside0.mk ta
  have WA := Aside0.mk wa
  clear ta wa ht
  obtain ⟨t, hT⟩ : ∃ t, agoOf n s = t := ⟨_, rfl⟩
  have htl : t < 65536 := hT ▸ ago_lt n s
  obtain ⟨p, hP⟩ : ∃ p, stampOf n = p := ⟨_, rfl⟩
  have hp : p = n % 65536 := hP.symm
  have hpl : p < 65536 := by omega
  have hz : agoOf n p = 0 := by rw [← hP]; exact ago_self n
  have HS := Aside0.mk (fun W => since_calls n s t hs hT W)
  have HZ := Aside0.mk (fun W => since_calls n p 0 hpl hz W)
  have HR := Aside0.mk (fun W => ref_since_calls n s t hn hs hT W)
  have HP : Aside0 (∀ W, Calls Tryd.prog 25 #[.int .u64 (n : Int)] W fun e w' => e = .returned (.int .u16 (p : Int)) ∧ Drawn0 W w') := ⟨fun W => hP ▸ stamp_calls n W⟩
  clear hT hP hz
  go_enter Tryd.func7, Tryd.ntmps7
  go_wp2_with (go_at_call 22; refine (awake14 _ HT.out).mono ?_; rintro e w1 ⟨rfl, hb1⟩; have HB1 := Aside0.mk hb1; clear hb1)
  go_loop [7, 19] (fun s i => SumRel l s i) (fun _ i => l.length - (RowKit.intOf i).toNat)
  case atStart => exact ⟨0, Nat.zero_le _, rfl, rfl⟩
  case round =>
    obtain ⟨k, hk, rfl, rfl⟩ := hrel
    by_cases hlt : k < l.length
    · obtain ⟨ad, rfl, hx0⟩ := TA.out k l[k] (List.getElem?_eq_getElem hlt)
      have hx := pw_cell_below HB1.out hx0
      clear hx0
      have hcv := fun W => conv_in l[k] (WA.out _ (List.getElem_mem hlt)) W
      have hst := fun W => sum_step l k hlt W
      generalize hN : l[k] = N at hx hcv hst
      clear hN
      generalize nr N.toNat 0 = q at hcv hst
      generalize hs : sumF (l.take (k + 1)) = s1 at hst
      have HS := Aside0.mk hs
      clear hs
      generalize sumF (l.take k) = s0 at hst
      go_wp2
      go_round
      case rel => exact ⟨k + 1, hlt, by rw [HS.out], by go_num⟩
      case measure => simp [RowKit.intOf]; omega
    · obtain rfl : k = l.length := by omega
      rw [List.take_length]
      have hcn := fun W => conv_stamp n p hp W
      have htt : ((t : Int) == (t : Int)) = true := beq_self_eq_true _
      have htd : decide ((t : Int) < 65536) = true := decide_eq_true (by omega)
      clear hn hs hp hpl htl
      by_cases h0 : l = []
      · subst h0
        clear hc hl hlt hk
        have hl : ([] : List Int).length ≤ 100 := Nat.zero_le _
        have hc : ([] : List Int).length ≤ c := Nat.zero_le _
        have HL := Aside0.mk hl
        have HC := Aside0.mk hc
        clear hl hc
        go_wp2_with (first
          | (go_at_call 23; refine (mean_nums A [] c _ HL.out HC.out (TA.out.below HB1.out) WA.out).mono ?_; rintro e w2 ⟨m, rfl, hM, hb2⟩; have HB2 := Aside0.mk (HB1.out.trans (hb2.mono HB1.out.size)); have HM := Aside0.mk (isnan_true hM); clear hb2 hM)
          | ((go_at_call 24; with_reducible refine (HS.out _).mono ?_); rintro e w3 ⟨rfl, ⟨n3, rfl⟩⟩)
          | ((go_at_call 26; with_reducible refine (HR.out _).mono ?_); rintro e w4 ⟨rfl, ⟨n4, rfl⟩⟩)
          | ((go_at_call 25; with_reducible refine (HP.out _).mono ?_); rintro e w5 ⟨rfl, ⟨n5, rfl⟩⟩)
          | ((go_at_call 24; with_reducible refine (HZ.out _).mono ?_); rintro e w6 ⟨rfl, ⟨n6, rfl⟩⟩)
          | ((go_at_call 27; with_reducible refine (HM.out _).mono ?_); rintro e w7 ⟨rfl, rfl⟩))
        go_ret
        exact ⟨rfl, pw_below_drewN HB2.out _⟩
      · have hn0 : l.length ≠ 0 := by simpa using h0
        have hlb : ((l.length : Int) == 0) = false := beq_eq_false_iff_ne.2 (by omega)
        have hlp : decide ((l.length : Int) > 0) = true := decide_eq_true (by omega)
        obtain ⟨q, h1, h2, h3⟩ := div_good (sumF l) l.length (sumF_good l) hn0 (by omega)
        have hd := fun W => run_div _ _ _ h1 W
        have hcl := fun W => conv_len l.length W
        have HQ := Aside0.mk (same_at q q 0 h2 h2 (cp_self q))
        have hmq : ∀ W, Below w.heap.size w W → Calls Tryd.prog 23 #[.slice A l.length c] W fun e w' => e = .returned (.float .f64 q) ∧ Below W.heap.size W w' := fun W hW =>
          (mean_nums A l c W hl hc (TA.out.below hW) WA.out).mono (by rintro e w' ⟨m, rfl, hM, hb⟩; obtain rfl := mean_is h0 h1 hM; exact ⟨rfl, hb⟩)
        have HMQ := Aside0.mk hmq
        clear hmq TA WA h1 h0 h2 h3 hn0 hlt hk hc hl
        generalize l.length = L at *
        generalize nr L 0 = y at *
        generalize sumF l = s0 at *
        obtain ⟨z, hz⟩ : ∃ z : Int, (L : Int) = z := ⟨_, rfl⟩
        rw [hz] at hlb hlp
        simp only [hz] at hcl
        go_wp2_with (first
          | (go_at_call 23; with_reducible refine (HMQ.out _ HB1.out).mono ?_; rintro e w2 ⟨rfl, hb2⟩; have HB2 := Aside0.mk (HB1.out.trans (hb2.mono HB1.out.size)); clear hb2)
          | ((go_at_call 24; with_reducible refine (HS.out _).mono ?_); rintro e w3 ⟨rfl, ⟨n3, rfl⟩⟩)
          | ((go_at_call 26; with_reducible refine (HR.out _).mono ?_); rintro e w4 ⟨rfl, ⟨n4, rfl⟩⟩)
          | ((go_at_call 25; with_reducible refine (HP.out _).mono ?_); rintro e w5 ⟨rfl, ⟨n5, rfl⟩⟩)
          | ((go_at_call 24; with_reducible refine (HZ.out _).mono ?_); rintro e w6 ⟨rfl, ⟨n6, rfl⟩⟩)
          | ((go_at_call 19; with_reducible refine (HQ.out _).mono ?_); rintro e w7 ⟨rfl, rfl⟩))
        go_ret
        exact ⟨rfl, pw_below_drewN HB2.out _⟩

theorem wf16n {a : Int} (h : (Lit.int .u16 a).wf = true) : 0 ≤ a ∧ a ≤ 65535 := by
  simp [Lit.wf, IntKind.min, IntKind.max, IntKind.signed, IntKind.bits] at h
  omega

theorem stamps_row (w : World) (n s : Int) (A : Option Addr) (l : List Int) (c : Nat) (hn : (Lit.int .u64 n).wf = true) (hs : (Lit.int .u16 s).wf = true)
    (ta : Nums .u64 w A l) (wa : ∀ x ∈ l, (Lit.int .u64 x).wf = true) (hac : l.length ≤ c) (hm : l.length * 8 ≤ 140737488351232) (ht : Tabs w) :
    Calls Tryd.prog 7 #[.int .u64 n, .int .u16 s, .slice A l.length c] w fun e w' => e = .returned (.bool true) ∧ Below w.heap.size w w' := by
  have h1 := wf64n hn
  have h2 := wf16n hs
  obtain ⟨n', rfl⟩ : ∃ k : Nat, n = k := ⟨n.toNat, by omega⟩
  obtain ⟨s', rfl⟩ : ∃ k : Nat, s = k := ⟨s.toNat, by omega⟩
  by_cases h : l.length ≤ 100
  · exact stamps_short n' s' A l c w ht (by omega) (by omega) h hac ta (fun x hx => (wf64n (wa x hx)).1)
  · exact stamps_long n' s' A l c w ht (by omega) (by omega)
end Go.Proofs.YthpmhjlndnelfaaDoor.Real
