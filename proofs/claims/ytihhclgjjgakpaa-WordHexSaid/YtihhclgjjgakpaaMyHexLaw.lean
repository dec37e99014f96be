/- WordHex: the walk of the law. No conditions but the reach of the arguments. -/
import Derived.Test.YtihhclgjjgakpaaMyUnhex
namespace Go.Proofs.Ytihhclgjjgakpaa.Inbox
open Go.RowKit Go.Proofs.YtihhclgjjgakpaaW.PrintWords Go.Proofs.YtihhclgjjgakpaaW.PrintLast Go.Proofs.YtihhclgjjgakpaaW.PrintMore

def hexB (s : ByteArray) : ByteArray := ⟨(hexL s.data.toList).toArray⟩

theorem hexB_size (s : ByteArray) : (hexB s).size = 2 * s.size := by
  rw [← data_length, hexB, ← data_length]
  simp [hexL_length]

theorem hexB_append (s t : ByteArray) : hexB (s ++ t) = hexB s ++ hexB t := by
  apply ByteArray.ext
  simp [hexB, ByteArray.data_append, hexL_append]

theorem hexD_inj : ∀ a b : Nat, a < 16 → b < 16 → (hexD a < hexD b ↔ a < b) ∧ (hexD a = hexD b ↔ a = b) := by
  have : ∀ a b : Fin 16, (hexD a.1 < hexD b.1 ↔ a.1 < b.1) ∧ (hexD a.1 = hexD b.1 ↔ a.1 = b.1) := by decide
  exact fun a b ha hb => this ⟨a, ha⟩ ⟨b, hb⟩

theorem cmp_hexL (a b : List UInt8) : Lib.compareBytes (hexL a) (hexL b) = Lib.compareBytes a b := by
  induction a generalizing b with
  | nil =>
    cases b with
    | nil => rfl
    | cons y b => rfl
  | cons x a ih =>
    cases b with
    | nil => rfl
    | cons y b =>
      have hx := x.toNat_lt
      have hy := y.toNat_lt
      have e1 := hexD_inj (x.toNat / 16) (y.toNat / 16) (by omega) (by omega)
      have e1' := hexD_inj (y.toNat / 16) (x.toNat / 16) (by omega) (by omega)
      have e2 := hexD_inj (x.toNat % 16) (y.toNat % 16) (by omega) (by omega)
      have e2' := hexD_inj (y.toNat % 16) (x.toNat % 16) (by omega) (by omega)
      have hc : hexL (x :: a) = hexD (x.toNat / 16) :: hexD (x.toNat % 16) :: hexL a := rfl
      have hd : hexL (y :: b) = hexD (y.toNat / 16) :: hexD (y.toNat % 16) :: hexL b := rfl
      rw [hc, hd]
      simp only [Lib.compareBytes]
      simp only [e1.1, e1'.1, e2.1, e2'.1, UInt8.lt_iff_toNat_lt, ih]
      by_cases h1 : x.toNat / 16 < y.toNat / 16
      · rw [if_pos h1, if_pos (by omega)]
      · rw [if_neg h1]
        by_cases h2 : y.toNat / 16 < x.toNat / 16
        · rw [if_pos h2, if_neg (by omega), if_pos (by omega)]
        · rw [if_neg h2]
          by_cases h3 : x.toNat % 16 < y.toNat % 16
          · have k1 : x.toNat < y.toNat := by omega
            simp only [h3, k1, if_true]
          · by_cases h4 : y.toNat % 16 < x.toNat % 16
            · have k1 : ¬ x.toNat < y.toNat := by omega
              have k2 : y.toNat < x.toNat := by omega
              simp only [h3, h4, k1, k2, if_true, if_false]
            · have k1 : ¬ x.toNat < y.toNat := by omega
              have k2 : ¬ y.toNat < x.toNat := by omega
              simp only [h3, h4, k1, k2, if_false]

theorem cmp_zero (a b : List UInt8) : Lib.compareBytes a b = 0 ↔ a = b := by
  induction a generalizing b with
  | nil => cases b <;> simp [Lib.compareBytes]
  | cons x a ih =>
    cases b with
    | nil => simp [Lib.compareBytes]
    | cons y b =>
      simp only [Lib.compareBytes, List.cons.injEq]
      split
      · next h => simp; intro e; subst e; exact absurd h (by simp)
      · split
        · next h1 h => simp; intro e; subst e; exact absurd h (by simp)
        · next h1 h2 =>
          rw [ih]
          have : x = y := by
            rw [UInt8.lt_iff_toNat_lt] at h1 h2
            exact UInt8.toNat_inj.1 (by omega)
          simp [this]

theorem hexB_eq (s t : ByteArray) : ((hexB s).toList == (hexB t).toList) = (s.toList == t.toList) := by
  rw [Bool.eq_iff_iff, beq_iff_eq, beq_iff_eq, ByteArray.toList_eq, ByteArray.toList_eq, ByteArray.toList_eq, ByteArray.toList_eq]
  unfold hexB
  simp only
  rw [← cmp_zero, cmp_hexL, cmp_zero]

theorem hexB_any (s : ByteArray) (w : World) (hs : s.size ≤ 1000000) : Calls Try.prog 33 #[.string s] w fun e w' => e = .returned (.string (hexB s)) ∧ Below w.heap.size w w' := hex_any s w hs

theorem cmp_at (a b : ByteArray) (n : Int) (w : World) (h : Lib.compareBytes a.data.toList b.data.toList = n) : Calls Try.prog 35 #[.string a, .string b] w fun e w' => e = .returned (.int .i64 n) ∧ w = w' := by
  subst h
  exact (Try.strings_Compare a b w).mono fun _ _ ⟨h1, h2⟩ => ⟨h1, h2.symm⟩

theorem hexlaw_long (s t : ByteArray) (w : World) (h : 100 < s.size ∨ 100 < t.size) (h1 : s.size ≤ 140737488351232) (h2 : t.size ≤ 140737488351232) :
    Calls Try.prog 9 #[.string s, .string t] w fun e w' => e = .returned (.bool true) ∧ Below w.heap.size w w' := by
  go_enter Try.func9, Try.ntmps9
  go_wp2_with (go_at_call 17; refine (word_awake_any _).mono ?_; rintro e w1 ⟨rfl, hb1⟩; have HB1 := Aside0.mk hb1; clear hb1)
  all_goals first | (exfalso; omega) | skip
  all_goals
    go_ret
    exact ⟨rfl, HB1.out⟩

set_option maxHeartbeats 1000000 in
theorem hexlaw_short (s t : ByteArray) (w : World) (h1 : s.size ≤ 100) (h2 : t.size ≤ 100) :
    Calls Try.prog 9 #[.string s, .string t] w fun e w' => e = .returned (.bool true) ∧ Below w.heap.size w w' := by
  have hxs := hexB_size s
  have hys := hexB_size t
  have hx0 : (hexB s).size ≤ 200 := by omega
  have hy0 : (hexB t).size ≤ 200 := by omega
  obtain ⟨n, hn⟩ : ∃ n, Lib.compareBytes s.data.toList t.data.toList = n := ⟨_, rfl⟩
  have HN := Aside0.mk hn
  have hn2 : Lib.compareBytes (hexB s).data.toList (hexB t).data.toList = n := by rw [← hn]; unfold hexB; simp only; exact cmp_hexL _ _
  have HN2 := Aside0.mk hn2
  have HA := Aside0.mk (hexB_append s t)
  have HXS := Aside0.mk hxs
  have HE := Aside0.mk (hexB_eq s t)
  clear hn hn2 hxs hys
  go_enter Try.func9, Try.ntmps9
  go_wp2_with (go_at_call 17; refine (word_awake_any _).mono ?_; rintro e w1 ⟨rfl, hb1⟩; have HB1 := Aside0.mk hb1; clear hb1)
  refine (hexB_any s _ (by omega)).mono ?_
  rintro e w2 ⟨rfl, hb2⟩
  have HB2 := Aside0.mk (HB1.out.trans (hb2.mono HB1.out.size))
  clear hb2
  go_wp2_with fail
  refine (hexB_any t _ (by omega)).mono ?_
  rintro e w3 ⟨rfl, hb3⟩
  have HB3 := Aside0.mk (HB2.out.trans (hb3.mono HB2.out.size))
  clear hb3
  go_wp2_with fail
  have h48 : (hexB s ++ ⟨#[48]⟩).size = (hexB s).size + 1 := by rw [ByteArray.size_append]; rfl
  refine (unhex_odd _ s.size _ (by rw [h48]; omega) (by rw [h48, HXS.out])).mono ?_
  rintro e w4 ⟨rfl, hb4⟩
  have HB4 := Aside0.mk (HB3.out.trans (hb4.mono HB3.out.size))
  clear hb4 h48
  go_wp2_with fail
  refine (hexB_any (s ++ t) _ (by rw [ByteArray.size_append]; omega)).mono ?_
  rintro e w5 ⟨rfl, hb5⟩
  have HB5 := Aside0.mk (HB4.out.trans (hb5.mono HB4.out.size))
  clear hb5
  rw [HA.out]
  have he := HE.out
  have hxs : ((hexB s).size : Int) = 2 * s.size := by have := HXS.out; omega
  clear he hxs
  go_wp2_with fail
  refine (cmp_at (hexB s) (hexB t) n _ HN2.out).mono ?_
  rintro e w6 ⟨rfl, rfl⟩
  go_wp2_with fail
  refine (cmp_at s t n _ HN.out).mono ?_
  rintro e w7 ⟨rfl, rfl⟩
  go_wp2
  go_ret
  exact ⟨rfl, HB5.out⟩
  · have hf : ¬ ((hexB s).size : Int) = 2 * (s.size : Int) := by assumption
    exact absurd (by have := HXS.out; omega) hf
  · have hf : ¬ ((hexB s).toList == (hexB t).toList) = (s.toList == t.toList) := by assumption
    exact absurd HE.out hf

theorem hexlaw_walk (s t : ByteArray) (w : World) (h1 : s.size ≤ 140737488351232) (h2 : t.size ≤ 140737488351232) :
    Calls Try.prog 9 #[.string s, .string t] w fun e w' => e = .returned (.bool true) ∧ Below w.heap.size w w' := by
  by_cases h : s.size ≤ 100 ∧ t.size ≤ 100
  · exact hexlaw_short s t w h.1 h.2
  · exact hexlaw_long s t w (by omega) h1 h2
end Go.Proofs.Ytihhclgjjgakpaa.Inbox
