/- Of: its contract. No conditions. -/
import Derived.Test.YthpmhjlndnelfaaDoorMyBytes
namespace Go.Proofs.YthpmhjlndnelfaaDoor.Real
open Go.RowKit Go.Lib Go.Proofs.YthpmhjlndnelfaaDoorW.PrintWords Go.Proofs.YthpmhjlndnelfaaDoorW.PrintLast
open Go.Proofs.YthpmhjlndnelfaaDoor.Own

theorem nan_at (w : World) : Calls Tryd.prog 50 #[] w fun e w' => e = .returned (.float .f64 9221120237041090561) ∧ w = w' := by
  have h6 : ∀ W, (callFunc 41 #[.int .u64 9221120237041090561]).run Tryd.prog W = .ok (.value (.float .f64 9221120237041090561)) W := fun W => f41 9221120237041090561 W
  go_enter Tryd.func50, Tryd.ntmps50
  go_wp2
  go_ret
  exact ⟨rfl, rfl⟩

theorem dec_lt (n : Nat) (h : n < 18446744073709551616) : dec n < 18446744073709551616 := by
  unfold dec
  split
  · omega
  · split <;> omega

theorem nan_nan : nan 9221120237041090561 = true := by decide
theorem enc_nan : enc 9221120237041090561 = 0 := by unfold enc; rw [if_pos nan_nan]

theorem dec_bad (n : Nat) (h : n < 18446744073709551616) (hb : enc (dec n) ≠ n) : n ≠ 0 ∧ nan (dec n) = true := by
  have hd : dec n = if 9223372036854775808 ≤ n then n - 9223372036854775808 else if n = 0 then 9221120237041090561 else 18446744073709551615 - n := rfl
  by_cases h1 : 9223372036854775808 ≤ n
  · rw [if_pos h1] at hd
    refine ⟨by omega, ?_⟩
    cases e : nan (dec n) with
    | true => rfl
    | false =>
      exfalso
      apply hb
      have hs : sg (dec n) = false := by unfold sg; exact decide_eq_false (by omega)
      unfold enc
      rw [e, hs, if_neg (by simp), if_neg (by simp)]
      omega
  · rw [if_neg h1] at hd
    by_cases h0 : n = 0
    · exfalso
      rw [if_pos h0] at hd
      apply hb
      rw [hd, enc_nan, h0]
    · rw [if_neg h0] at hd
      refine ⟨h0, ?_⟩
      cases e : nan (dec n) with
      | true => rfl
      | false =>
        exfalso
        apply hb
        have hs : sg (dec n) = true := by unfold sg; exact decide_eq_true (by omega)
        unfold enc
        rw [e, hs, if_neg (by simp), if_pos rfl]
        omega

theorem dec_enc (a : Nat) (ha : a < 18446744073709551616) : (nan a = false → dec (enc a) = a) ∧ (nan a = true → dec (enc a) = 9221120237041090561) := by
  have hr := rg_le a
  constructor
  · intro h
    have h' := h
    unfold nan at h'
    rw [decide_eq_false_iff_not] at h'
    have he : enc a = if sg a then 18446744073709551615 - a else a + 9223372036854775808 := by unfold enc; rw [h]; rfl
    unfold dec
    cases hs : sg a
    · rw [hs] at he
      simp only [if_false, Bool.false_eq_true] at he
      rw [if_pos (by omega)]
      omega
    · rw [hs] at he
      simp only [if_true] at he
      unfold sg at hs
      rw [decide_eq_true_eq] at hs
      unfold rg at h'
      rw [if_neg (by omega), if_neg (by omega)]
      omega
  · intro h
    have : enc a = 0 := by unfold enc; rw [if_pos h]
    rw [this]
    rfl

def OfRes (w : World) (x c : Nat) (e : Ending) (w' : World) : Prop := e = .returned (.tuple #[.float .f64 x, .int .i64 (c : Int)]) ∧ Below w.heap.size w w'

theorem list_ne (t s : ByteArray) (h : t ≠ s) : (t.toList == s.toList) = false := by
  rw [beq_eq_false_iff_ne]
  intro e
  rw [ByteArray.toList_eq, ByteArray.toList_eq] at e
  exact h (ByteArray.ext (Array.toList_inj.1 e))

set_option maxRecDepth 100000 in
set_option maxHeartbeats 1000000 in
/-- The three ways in which Of reads a number. -/
theorem of_run (s : ByteArray) (n x : Nat) (hs : s.size = 8) (hv : val s.data.toList = n) (hn : n < 18446744073709551616) (hx : dec n = x) (w : World) :
    Calls Tryd.prog 37 #[.string s] w fun e w' => (enc x = n → OfRes w x 0 e w') ∧ (enc x ≠ n → OfRes w 0 4 e w') := by
  have HG := Aside0.mk (get8 s n hs hv)
  have hxl : x < 18446744073709551616 := by rw [← hx]; exact dec_lt n hn
  obtain ⟨t, ht⟩ : ∃ t, P8 (enc x) = t := ⟨_, rfl⟩
  have HBY := Aside0.mk (bytes_at x t hxl ht)
  have hts : (enc x = n ∧ t = s) ∨ (enc x ≠ n ∧ (t.toList == s.toList) = false) := by
    by_cases h : enc x = n
    · left
      refine ⟨h, ?_⟩
      rw [← ht, h, ← hv]
      exact P8_of s hs
    · right
      refine ⟨h, list_ne t s (fun e => h ?_)⟩
      have := congrArg (fun u : ByteArray => val u.data.toList) e
      simp only [← ht, hv, P8_val _ (enc_lt x hxl)] at this
      exact this
  have hsz : ((s.size : Int) != 8) = false := by rw [bne_eq_false_iff_eq]; omega
  have hand := band n hn
  have hnot := bnotm n hn
  have hadn := bandnot n hn
  unfold dec at hx
  by_cases h1 : 9223372036854775808 ≤ n
  · rw [if_pos h1] at hx
    have hsg : sg n = true := decide_eq_true h1
    rw [hsg, if_pos rfl] at hand
    have hrx : rg n = x := by unfold rg; omega
    rw [hrx] at hadn
    have h41 : ∀ W, (callFunc 41 #[.int .u64 (x : Int)]).run Tryd.prog W = .ok (.value (.float .f64 x)) W := fun W => by rw [f41, Int.toNat_natCast]
    clear hnot hx hsg hrx h1 hs hv
    rcases hts with ⟨he, rfl⟩ | ⟨he, hne⟩
    · go_enter Tryd.func37, Tryd.ntmps37
      go_wp2_with (first
        | (go_at_call 70; refine (HG.out _).mono ?_; rintro e w1 ⟨rfl, hb1⟩; have HB1 := Aside0.mk hb1; clear hb1)
        | (go_at_call 50; refine (nan_at _).mono ?_; rintro e w' ⟨rfl, rfl⟩)
        | (go_at_call 36; refine (HBY.out _).mono ?_; rintro e w2 ⟨rfl, hb2⟩; have HB2 := Aside0.mk (HB1.out.trans (hb2.mono HB1.out.size)); clear hb2))
      go_ret2
      exact ⟨fun _ => ⟨rfl, HB2.out⟩, fun h => absurd he h⟩
    · go_enter Tryd.func37, Tryd.ntmps37
      go_wp2_with (first
        | (go_at_call 70; refine (HG.out _).mono ?_; rintro e w1 ⟨rfl, hb1⟩; have HB1 := Aside0.mk hb1; clear hb1)
        | (go_at_call 50; refine (nan_at _).mono ?_; rintro e w' ⟨rfl, rfl⟩)
        | (go_at_call 36; refine (HBY.out _).mono ?_; rintro e w2 ⟨rfl, hb2⟩; have HB2 := Aside0.mk (HB1.out.trans (hb2.mono HB1.out.size)); clear hb2))
      go_ret2
      exact ⟨fun h => absurd h he, fun _ => ⟨rfl, HB2.out⟩⟩
  · rw [if_neg h1] at hx
    have hsg : sg n = false := decide_eq_false h1
    rw [hsg, if_neg (by simp)] at hand
    by_cases h0 : n = 0
    · rw [if_pos h0] at hx
      subst hx
      subst h0
      clear hnot hadn hsg h1 hs hv
      rcases hts with ⟨he, rfl⟩ | ⟨he, hne⟩
      · go_enter Tryd.func37, Tryd.ntmps37
        go_wp2_with (first
          | (go_at_call 70; refine (HG.out _).mono ?_; rintro e w1 ⟨rfl, hb1⟩; have HB1 := Aside0.mk hb1; clear hb1)
          | (go_at_call 50; refine (nan_at _).mono ?_; rintro e w' ⟨rfl, rfl⟩)
          | (go_at_call 36; refine (HBY.out _).mono ?_; rintro e w2 ⟨rfl, hb2⟩; have HB2 := Aside0.mk (HB1.out.trans (hb2.mono HB1.out.size)); clear hb2))
        go_ret2
        exact ⟨fun _ => ⟨rfl, HB2.out⟩, fun h => absurd he h⟩
      · exact absurd enc_nan he
    · rw [if_neg h0] at hx
      have hn0 : ((n : Int) == 0) = false := beq_eq_false_iff_ne.2 (by omega)
      have hn1 : ((n : Int) != 0) = true := by rw [bne, hn0]; rfl
      rw [hx] at hnot
      have h41 : ∀ W, (callFunc 41 #[.int .u64 (Go.bits .xor .u64 IntKind.u64.max (n : Int))]).run Tryd.prog W = .ok (.value (.float .f64 x)) W := fun W => by rw [hnot, f41, Int.toNat_natCast]
      clear hadn hx hsg h1 hs hv hnot
      rcases hts with ⟨he, rfl⟩ | ⟨he, hne⟩
      · go_enter Tryd.func37, Tryd.ntmps37
        go_wp2_with (first
          | (go_at_call 70; refine (HG.out _).mono ?_; rintro e w1 ⟨rfl, hb1⟩; have HB1 := Aside0.mk hb1; clear hb1)
          | (go_at_call 50; refine (nan_at _).mono ?_; rintro e w' ⟨rfl, rfl⟩)
          | (go_at_call 36; refine (HBY.out _).mono ?_; rintro e w2 ⟨rfl, hb2⟩; have HB2 := Aside0.mk (HB1.out.trans (hb2.mono HB1.out.size)); clear hb2))
        go_ret2
        exact ⟨fun _ => ⟨rfl, HB2.out⟩, fun h => absurd he h⟩
      · go_enter Tryd.func37, Tryd.ntmps37
        go_wp2_with (first
          | (go_at_call 70; refine (HG.out _).mono ?_; rintro e w1 ⟨rfl, hb1⟩; have HB1 := Aside0.mk hb1; clear hb1)
          | (go_at_call 50; refine (nan_at _).mono ?_; rintro e w' ⟨rfl, rfl⟩)
          | (go_at_call 36; refine (HBY.out _).mono ?_; rintro e w2 ⟨rfl, hb2⟩; have HB2 := Aside0.mk (HB1.out.trans (hb2.mono HB1.out.size)); clear hb2))
        go_ret2
        exact ⟨fun h => absurd h he, fun _ => ⟨rfl, HB2.out⟩⟩

theorem of_no (s : ByteArray) (hs : s.size ≠ 8) (w : World) : Calls Tryd.prog 37 #[.string s] w fun e w' => OfRes w 0 4 e w' := by
  have hsz : ((s.size : Int) != 8) = true := by rw [bne_iff_ne]; omega
  have hsz2 : ((s.size : Int) == 8) = false := beq_eq_false_iff_ne.2 (by omega)
  obtain ⟨v, c, hc⟩ := get_any s w
  have HG := Aside0.mk hc
  clear hc hs
  by_cases h0 : c = 0
  · subst h0
    go_enter Tryd.func37, Tryd.ntmps37
    go_wp2_with (go_at_call 70; refine HG.out.mono ?_; rintro e w1 ⟨rfl, hb1⟩; have HB1 := Aside0.mk hb1; clear hb1)
    go_ret2
    exact ⟨rfl, HB1.out⟩
  · have h1 : (c == 0) = false := beq_eq_false_iff_ne.2 h0
    go_enter Tryd.func37, Tryd.ntmps37
    go_wp2_with (go_at_call 70; refine HG.out.mono ?_; rintro e w1 ⟨rfl, hb1⟩; have HB1 := Aside0.mk hb1; clear hb1)
    go_ret2
    exact ⟨rfl, HB1.out⟩
end Go.Proofs.YthpmhjlndnelfaaDoor.Real
