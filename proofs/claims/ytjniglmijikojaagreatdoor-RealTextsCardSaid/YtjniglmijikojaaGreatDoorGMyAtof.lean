/- atof64 at a number's own text: its contract. The conditions: 64 bits; the tables are laid. real.Parse at a number's own text gives a number of the same text. The conditions: 64 bits; the tables are laid. -/
import Derived.Test.YtjniglmijikojaaGreatDoorGMySpec2
namespace Go.Proofs.YtjniglmijikojaaGreatDoor.Text
set_option linter.unusedSimpArgs false
set_option linter.unusedVariables false
open Go.Lib Go.RowKit Go.Proofs.YtjniglmijikojaaGreatDoor.Own Go.Proofs.YtjniglmijikojaaGreatDoor.Real Go.Proofs.YtjniglmijikojaaGreatDoorW.PrintWords Ieee

/-- What atof64 tells: the number, all bytes read, no error. -/
def OwnRes (x : Nat) (n : Int) (w : World) (e : Ending) (w' : World) : Prop := e = .returned (.tuple #[.float .f64 x, .int .i64 n, .nilIface]) ∧ Below w.heap.size w w'

set_option maxRecDepth 30000 in
set_option maxHeartbeats 4000000 in
theorem atof_own (x : Nat) (hx : x < 18446744073709551616) (hn : nan x = false) (hi : rg x ≠ 9218868437227405312) (h0 : rg x ≠ 0) (w : World) (ht : Tabs w) :
    Calls Tryz.prog 54 #[.string (textB x)] w (OwnRes x ((textB x).size : Int) w) := by
  obtain ⟨m, E, m0, m1, hin, E1, E2, hrd⟩ := read_own x hx hn hi h0
  have hfe := fin_e x hn hi
  have hF := fin_of x hx hfe h0
  have HS := Aside0.mk (fun w => spec_text x hx hn hi w)
  have HR := Aside0.mk hrd
  have HX := Aside0.mk (fun w ht => exact_any m E (sg x) m0 (by omega) w ht)
  have HB := Aside0.mk (fun (r : Nat) (h : Ex m E r) => ex_back x hx hfe h0 ⟨E1, E2⟩ hin h)
  obtain ⟨b1, b2, b3, b4⟩ := bitLen_spec (x := m) (by omega) m0
  have hb57 : Lib.bitLen m ≤ 57 := by
    rcases Nat.lt_or_ge 57 (Lib.bitLen m) with g | g
    · have : 2 ^ 57 ≤ 2 ^ (Lib.bitLen m - 1) := Nat.pow_le_pow_right (by omega) (by omega)
      omega
    · exact g
  have HP := Aside0.mk (fun w ht => hF.bits ▸ parse_exact (mOf x) (qOf x) m (Lib.bitLen m) (sOf x) E hF.pos hF.top hF.lo hF.hi hF.nrm b3 b4 b1 b2 E1 E2 (.inl hb57) hin (by unfold sOf; split <;> omega) w ht)
  have HT := Aside0.mk ht
  have op := ht.op
  have hsz := textB_len x hx
  generalize textB x = s at *
  have q0 : ((m : Int) == 0) = false := beq_eq_false_iff_ne.2 (by omega)
  have q1 := eq_false (show ¬ 310 < E by omega)
  have q2 := eq_false (show ¬ E < -345 by omega)
  unfold sOf at HP
  clear ht hin hrd hF b1 b2 b3 b4 hb57
  generalize sg x = neg at *
  have e3 := fun W => b2u_t W
  have e4 := fun W => b2u_f W
  cases neg
  · go_enter Tryz.func54, Tryz.ntmps54
    go_wp2_with (first
      | ((go_at_call 79; refine (HS.out _).mono ?_); rintro e w1 ⟨rfl, hb1⟩; have op1 := (HT.out.below hb1).op; have HB1 := Aside0.mk hb1; have HT1 := Aside0.mk (HT.out.below hb1); clear hb1)
      | ((go_at_call 80; refine (HR.out _).mono ?_); rintro e w' ⟨rfl, rfl⟩)
      | ((go_at_call 88; refine (e4 _).mono ?_); rintro e w' ⟨rfl, rfl⟩))
    refine (HX.out _ HT1.out).mono ?_
    rintro e w3 ⟨f, ok, rfl, rfl, hex⟩
    cases ok
    · go_wp2_with fail
      refine (HP.out _ HT1.out.ten).mono ?_
      rintro e w4 ⟨rfl, hb4⟩
      have HB4 := Aside0.mk (HB1.out.trans (hb4.mono HB1.out.size))
      clear hb4 hex
      go_wp2
      go_returns
      exact ⟨rfl, HB4.out⟩
    · obtain ⟨r, hf, hr⟩ := hex rfl
      have hfx := hf.trans (HB.out r hr)
      clear hex hr hf
      subst hfx
      go_wp2
      go_returns
      exact ⟨rfl, HB1.out⟩
  · go_enter Tryz.func54, Tryz.ntmps54
    go_wp2_with (first
      | ((go_at_call 79; refine (HS.out _).mono ?_); rintro e w1 ⟨rfl, hb1⟩; have op1 := (HT.out.below hb1).op; have HB1 := Aside0.mk hb1; have HT1 := Aside0.mk (HT.out.below hb1); clear hb1)
      | ((go_at_call 80; refine (HR.out _).mono ?_); rintro e w' ⟨rfl, rfl⟩)
      | ((go_at_call 88; refine (e3 _).mono ?_); rintro e w' ⟨rfl, rfl⟩))
    refine (HX.out _ HT1.out).mono ?_
    rintro e w3 ⟨f, ok, rfl, rfl, hex⟩
    cases ok
    · go_wp2_with fail
      refine (HP.out _ HT1.out.ten).mono ?_
      rintro e w4 ⟨rfl, hb4⟩
      have HB4 := Aside0.mk (HB1.out.trans (hb4.mono HB1.out.size))
      clear hb4 hex
      go_wp2
      go_returns
      exact ⟨rfl, HB4.out⟩
    · obtain ⟨r, hf, hr⟩ := hex rfl
      have hfx := hf.trans (HB.out r hr)
      clear hex hr hf
      subst hfx
      go_wp2
      go_returns
      exact ⟨rfl, HB1.out⟩
end Go.Proofs.YtjniglmijikojaaGreatDoor.Text
namespace Go.Proofs.YtjniglmijikojaaGreatDoor.Text
set_option linter.unusedSimpArgs false
set_option linter.unusedVariables false
open Go.RowKit Go.Lib Go.Proofs.YtjniglmijikojaaGreatDoor.Own Go.Proofs.YtjniglmijikojaaGreatDoor.Real Go.Proofs.YtjniglmijikojaaGreatDoorW.PrintWords

/-- What atof64 tells at x's own text. -/
def QOwn (x : Nat) (y : Nat) (n : Int) (r : Value) : Prop := y < 18446744073709551616 ∧ n = ((textB x).size : Int) ∧ r = .nilIface ∧ textB y = textB x

set_option maxRecDepth 30000 in
theorem atof_spec (s : ByteArray) (f : Nat) (n : Int) (h : ∀ w, Calls Tryz.prog 79 #[.string s] w (SpecRes f n true w)) (w : World) : Calls Tryz.prog 54 #[.string s] w (Ret3 (fun y k r => y = f ∧ k = n ∧ r = .nilIface) w) := by
  have HS := Aside0.mk h
  clear h
  go_enter Tryz.func54, Tryz.ntmps54
  go_wp2_with fail
  refine (HS.out _).mono ?_
  rintro e w1 ⟨rfl, hb1⟩
  have HB := Aside0.mk hb1
  clear hb1
  go_wp2
  go_returns
  exact ret3 ⟨rfl, rfl, rfl⟩ HB.out

set_option maxRecDepth 30000 in
theorem atof_zero (x : Nat) (hx : x < 18446744073709551616) (h0 : rg x = 0) (w : World) (ht : Tabs w) : Calls Tryz.prog 54 #[.string (textB x)] w (Ret3 (fun y k r => y = (if sg x then 9223372036854775808 else 0) ∧ k = ((textB x).size : Int) ∧ r = .nilIface) w) := by
  have hn : nan x = false := by unfold nan; rw [h0]; decide
  have HS := Aside0.mk (fun w => spec_text x hx hn (by omega) w)
  have HR := Aside0.mk (fun w => read_zero x hx h0 w)
  have HT := Aside0.mk ht
  have op := ht.op
  have hf89 := f89
  generalize textB x = s at *
  clear ht hn h0
  generalize sg x = neg at *
  cases neg
  · have E4 := Aside0.mk b2u_f
    have r0 := or00
    go_enter Tryz.func54, Tryz.ntmps54
    go_wp2_with (first
      | ((go_at_call 79; refine (HS.out _).mono ?_); rintro e w1 ⟨rfl, hb1⟩; have op1 := (HT.out.below hb1).op; have HB1 := Aside0.mk hb1; clear hb1)
      | ((go_at_call 80; refine (HR.out _).mono ?_); rintro e w' ⟨rfl, rfl⟩)
      | ((go_at_call 88; refine (E4.out _).mono ?_); rintro e w' ⟨rfl, rfl⟩))
    go_returns
    exact ret3 ⟨rfl, rfl, rfl⟩ HB1.out
  · have E4 := Aside0.mk b2u_t
    have r0 := or10
    go_enter Tryz.func54, Tryz.ntmps54
    go_wp2_with (first
      | ((go_at_call 79; refine (HS.out _).mono ?_); rintro e w1 ⟨rfl, hb1⟩; have op1 := (HT.out.below hb1).op; have HB1 := Aside0.mk hb1; clear hb1)
      | ((go_at_call 80; refine (HR.out _).mono ?_); rintro e w' ⟨rfl, rfl⟩)
      | ((go_at_call 88; refine (E4.out _).mono ?_); rintro e w' ⟨rfl, rfl⟩))
    go_returns
    exact ret3 ⟨rfl, rfl, rfl⟩ HB1.out

theorem textB_of {x : Nat} {l : List Int} (h : textL x = l) : textB x = strOfNums l := by
  unfold textB
  rw [h]
theorem own_any (x : Nat) (hx : x < 18446744073709551616) (w : World) (ht : Tabs w) : Calls Tryz.prog 54 #[.string (textB x)] w (Ret3 (QOwn x) w) := by
  cases hn : nan x
  · by_cases hi : rg x = 9218868437227405312
    · have e := textB_of (text_inf x hn hi)
      cases hs : sg x
      · rw [hs] at e
        have e2 : textB x = ⟨#[105, 110, 102]⟩ := e.trans (by decide +kernel)
        have e3 : textB infw = ⟨#[105, 110, 102]⟩ := by decide +kernel
        rw [e2]
        refine (atof_spec _ infw 3 spec_inf w).mono fun e w' ⟨⟨f, n, r, he, h1, h2, h3⟩, hb⟩ => ⟨⟨f, n, r, he, ?_⟩, hb⟩
        subst h1 h2 h3
        exact ⟨by decide, by rw [e2]; rfl, rfl, by rw [e3, e2]⟩
      · rw [hs] at e
        have e2 : textB x = ⟨#[45, 105, 110, 102]⟩ := e.trans (by decide +kernel)
        have e3 : textB minfw = ⟨#[45, 105, 110, 102]⟩ := by decide +kernel
        rw [e2]
        refine (atof_spec _ minfw 4 spec_minf w).mono fun e w' ⟨⟨f, n, r, he, h1, h2, h3⟩, hb⟩ => ⟨⟨f, n, r, he, ?_⟩, hb⟩
        subst h1 h2 h3
        exact ⟨by decide, by rw [e2]; rfl, rfl, by rw [e3, e2]⟩
    · by_cases h0 : rg x = 0
      · refine (atof_zero x hx h0 w ht).mono fun e w' ⟨⟨f, n, r, he, h1, h2, h3⟩, hb⟩ => ⟨⟨f, n, r, he, ?_⟩, hb⟩
        subst h2 h3
        refine ⟨by rw [h1]; split <;> decide, rfl, rfl, ?_⟩
        have hfx : f = x := by
          rw [h1]
          have hr : rg x = x % 9223372036854775808 := rfl
          have hsg : sg x = decide (9223372036854775808 ≤ x) := rfl
          rw [hsg]
          by_cases h : 9223372036854775808 ≤ x
          · rw [decide_eq_true h, if_pos rfl]; omega
          · rw [decide_eq_false h, if_neg (by decide)]; omega
        rw [hfx]
      · refine (atof_own x hx hn hi h0 w ht).mono fun e w' ⟨he, hb⟩ => ⟨⟨x, _, _, he, hx, rfl, rfl, rfl⟩, hb⟩
  · have e2 : textB x = ⟨#[110, 97, 110]⟩ := (textB_of (text_nan x hn)).trans (by decide +kernel)
    have e3 : textB nanw = ⟨#[110, 97, 110]⟩ := by decide +kernel
    rw [e2]
    refine (atof_spec _ nanw 3 spec_nan w).mono fun e w' ⟨⟨f, n, r, he, h1, h2, h3⟩, hb⟩ => ⟨⟨f, n, r, he, ?_⟩, hb⟩
    subst h1 h2 h3
    exact ⟨by decide, by rw [e2]; rfl, rfl, by rw [e3, e2]⟩
/-- real.Parse at a number's own text: a number of the same text, no error. -/
theorem parse_own (x : Nat) (hx : x < 18446744073709551616) (w : World) (ht : Tabs w) :
    Calls Tryz.prog 6 #[.string (textB x)] w fun e w' => (∃ y : Nat, e = .returned (.tuple #[.float .f64 y, .int .i64 0]) ∧ y < 18446744073709551616 ∧ textB y = textB x) ∧ Below w.heap.size w w' := by
  refine (parse_of (QOwn x) (fun f n r h => ⟨h.1, .inl h.2.2.1⟩) (textB x) (by have := textB_len x hx; omega) w ht (own_any x hx w ht)).mono ?_
  rintro e w' ⟨⟨y, k, rfl, hy, hk⟩, hb⟩
  rcases hk with ⟨rfl, h⟩ | ⟨_, _, f, n, r, hq, hno⟩
  · exact ⟨⟨y, rfl, hy, h⟩, hb⟩
  · exact (hno ⟨hq.2.1, hq.2.2.1, hq.2.2.2⟩).elim
end Go.Proofs.YtjniglmijikojaaGreatDoor.Text
