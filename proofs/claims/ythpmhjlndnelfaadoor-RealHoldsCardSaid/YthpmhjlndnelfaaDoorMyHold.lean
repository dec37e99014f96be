/- Least, Most, Hold: their contracts; a row of floats that came in. The conditions: 64 bits each. -/
import Derived.Test.YthpmhjlndnelfaaDoorMyFlts
import Derived.Deep.Slices
import Derived.Deep.Fields
import Derived.ChangeSame
import Derived.Laws.Cover2
namespace Go.Proofs.YthpmhjlndnelfaaDoor.Real
open Go.RowKit Go.Lib Go.Proofs.YthpmhjlndnelfaaDoorW.PrintWords
open Go.ChangeShapes Go.WideShapes Go.Deep

theorem nan50' (w : World) : Calls Tryd.prog 50 #[] w fun e w' => e = .returned (.float .f64 9221120237041090561) ∧ w = w' := by
  have h6 : ∀ W, (callFunc 41 #[.int .u64 9221120237041090561]).run Tryd.prog W = .ok (.value (.float .f64 9221120237041090561)) W := fun W => f41 9221120237041090561 W
  go_enter Tryd.func50, Tryd.ntmps50
  go_wp2
  go_ret
  exact ⟨rfl, rfl⟩

theorem least_any (A : Option Addr) (l : List Nat) (c : Nat) (w : World) (hm : l.length ≤ 9223372036854775807) (ta : Flts w A l) :
    Calls Tryd.prog 34 #[.slice A l.length c] w fun e w' => e = .returned (.float .f64 (foldR lo l)) ∧ w = w' := by
  by_cases h0 : l = []
  · subst h0
    clear ta hm
    go_enter Tryd.func34, Tryd.ntmps34
    go_wp2_with (go_at_call 50; refine (nan50' _).mono ?_; rintro e w' ⟨rfl, rfl⟩)
    go_ret
    exact ⟨rfl, rfl⟩
  · have hn0 : l.length ≠ 0 := by simpa using h0
    have hz : ((l.length : Int) == 0) = false := beq_eq_false_iff_ne.2 (by omega)
    have HM := Aside0.mk (fun W (t : Flts W A l) => min_any A l c W h0 hm t)
    have TA := Aside0.mk ta
    clear ta h0 hn0
    generalize l.length = L at *
    obtain ⟨z, hz2⟩ : ∃ z : Int, (L : Int) = z := ⟨_, rfl⟩
    rw [hz2] at hz
    go_enter Tryd.func34, Tryd.ntmps34
    go_wp2_with (go_at_call 66; refine (HM.out _ TA.out).mono ?_; rintro e w' ⟨rfl, rfl⟩)
    go_ret
    exact ⟨rfl, rfl⟩

theorem most_any (A : Option Addr) (l : List Nat) (c : Nat) (w : World) (hm : l.length ≤ 9223372036854775807) (ta : Flts w A l) :
    Calls Tryd.prog 35 #[.slice A l.length c] w fun e w' => e = .returned (.float .f64 (foldR hi l)) ∧ w = w' := by
  by_cases h0 : l = []
  · subst h0
    clear ta hm
    go_enter Tryd.func35, Tryd.ntmps35
    go_wp2_with (go_at_call 50; refine (nan50' _).mono ?_; rintro e w' ⟨rfl, rfl⟩)
    go_ret
    exact ⟨rfl, rfl⟩
  · have hn0 : l.length ≠ 0 := by simpa using h0
    have hz : ((l.length : Int) == 0) = false := beq_eq_false_iff_ne.2 (by omega)
    have HM := Aside0.mk (fun W (t : Flts W A l) => max_any A l c W h0 hm t)
    have TA := Aside0.mk ta
    clear ta h0 hn0
    generalize l.length = L at *
    obtain ⟨z, hz2⟩ : ∃ z : Int, (L : Int) = z := ⟨_, rfl⟩
    rw [hz2] at hz
    go_enter Tryd.func35, Tryd.ntmps35
    go_wp2_with (go_at_call 67; refine (HM.out _ TA.out).mono ?_; rintro e w' ⟨rfl, rfl⟩)
    go_ret
    exact ⟨rfl, rfl⟩

/-- A number held. -/
def hd (x l h : Nat) : Nat := if cp x l < 0 then l else if cp x h > 0 then h else x

theorem hold_any (x l h : Nat) (hx : x < 18446744073709551616) (hl : l < 18446744073709551616) (hh : h < 18446744073709551616) (w : World) :
    Calls Tryd.prog 33 #[.float .f64 x, .float .f64 l, .float .f64 h] w fun e w' => e = .returned (.float .f64 (hd x l h)) ∧ w = w' := by
  obtain ⟨r, hr⟩ : ∃ r, cp x l = r := ⟨_, rfl⟩
  obtain ⟨s, hs⟩ : ∃ r, cp x h = r := ⟨_, rfl⟩
  have HL := Aside0.mk (cmp_at x l r hx hl hr)
  have HH := Aside0.mk (cmp_at x h s hx hh hs)
  unfold hd
  rw [hr, hs]
  clear hr hs
  by_cases h1 : r < 0
  · rw [if_pos h1]
    have d1 : decide (r < 0) = true := decide_eq_true h1
    clear h1
    go_enter Tryd.func33, Tryd.ntmps33
    go_wp2_with (go_at_call 16; with_reducible refine (HL.out _).mono ?_; rintro e w' ⟨rfl, rfl⟩)
    go_ret
    exact ⟨rfl, rfl⟩
  · rw [if_neg h1]
    have d1 : decide (r < 0) = false := decide_eq_false h1
    clear h1
    by_cases h2 : s > 0
    · rw [if_pos h2]
      have d2 : decide (s > 0) = true := decide_eq_true h2
      clear h2
      go_enter Tryd.func33, Tryd.ntmps33
      go_wp2_with (first | ((go_at_call 16; with_reducible refine (HL.out _).mono ?_); rintro e w' ⟨rfl, rfl⟩) | ((go_at_call 16; with_reducible refine (HH.out _).mono ?_); rintro e w' ⟨rfl, rfl⟩))
      go_ret
      exact ⟨rfl, rfl⟩
    · rw [if_neg h2]
      have d2 : decide (s > 0) = false := decide_eq_false h2
      clear h2
      go_enter Tryd.func33, Tryd.ntmps33
      go_wp2_with (first | ((go_at_call 16; with_reducible refine (HL.out _).mono ?_); rintro e w' ⟨rfl, rfl⟩) | ((go_at_call 16; with_reducible refine (HH.out _).mono ?_); rintro e w' ⟨rfl, rfl⟩))
      go_ret
      exact ⟨rfl, rfl⟩

theorem hold_at (x l h r : Nat) (hx : x < 18446744073709551616) (hl : l < 18446744073709551616) (hh : h < 18446744073709551616) (hr : hd x l h = r) (w : World) :
    Calls Tryd.prog 33 #[.float .f64 x, .float .f64 l, .float .f64 h] w fun e w' => e = .returned (.float .f64 r) ∧ w = w' := hr ▸ hold_any x l h hx hl hh w

theorem flist_of {α : Type} (P : Nat → α → Prop) : ∀ n : Nat, (∀ i, i < n → ∃ p, P i p) → ∃ l : List α, l.length = n ∧ ∀ i p, l[i]? = some p → P i p
  | 0, _ => ⟨[], rfl, fun i p h => by simp at h⟩
  | n + 1, h => by
    obtain ⟨l, hl, hp⟩ := flist_of P n (fun i hi => h i (Nat.lt_succ_of_lt hi))
    obtain ⟨p, hq⟩ := h n (Nat.lt_succ_self n)
    refine ⟨l ++ [p], by simp [hl], fun i q hi => ?_⟩
    rcases Nat.lt_or_ge i l.length with hlt | hge
    · rw [List.getElem?_append_left hlt] at hi
      exact hp i q hi
    · rw [List.getElem?_append_right hge] at hi
      have h0 : i - l.length = 0 := by
        have := (List.getElem?_eq_some_iff.1 hi).1
        simp at this; omega
      rw [h0] at hi
      obtain rfl : p = q := by simpa using hi
      obtain rfl : i = n := by omega
      exact hq

section
variable {H : Type} {enc : TypeId × Value → H} {P : Program} {w : World} {base : Nat} {spare : Nat → Bool} {held : Bool}
theorem trod_flt {k : FloatKind} {t : TypeId} {fuel : Nat} {cs : List Value} {x : DataW H × List MemPlace} (ht : P.underlying t = some (.float k)) (h : DataW.trod enc P w base spare held fuel t cs = some x) :
    ∃ b, cs = [.float k b] ∧ (Lit.float k b).wf = true := by
  cases fuel with
  | zero => simp [DataW.trod] at h
  | succ n =>
    unfold DataW.trod at h
    rw [ht] at h
    split at h <;> simp_all
end
theorem wf_flt {b : Nat} (h : (Lit.float .f64 b).wf = true) : b < 18446744073709551616 := by
  simp only [Lit.wf, decide_eq_true_eq] at h
  exact h

section
variable {H : Type} {enc : TypeId × Value → H} {w : World} {base : Nat} {spare : Nat → Bool} {held : Bool}
set_option maxRecDepth 100000 in
theorem open_flts {fuel : Nat} {cs : List Value} {x : DataW H × List MemPlace} (h : DataW.trod enc Tryd.prog w base spare held fuel 51 cs = some x) :
    ∃ (A : Option Addr) (l : List Nat) (c : Nat), cs = [.slice A l.length c] ∧ l.length ≤ c ∧ l.length ≤ maxLen ∧ Flts w A l := by
  rcases open_slice Tryd.underlying51 h with ⟨hcs, _⟩ | ⟨a, len, cap, m, n, D, Pl, hcs, hb, hl, hm, hmm, _, hi⟩
  · exact ⟨none, [], 0, hcs, Nat.le_refl _, Nat.zero_le _, fun i a hi => by simp at hi⟩
  · have hC : Tryd.prog.cellsOf 22 = 1 := by kernel_rfl
    rw [hC] at hi
    have key : ∀ i, i < len → ∃ b : Nat, b < 18446744073709551616 ∧ w.cell? (a.add i) = some (.float .f64 b) := by
      intro i hil
      obtain ⟨cs', hc, ht'⟩ := hi i (by rw [hmm]; split <;> omega)
      obtain ⟨b, rfl, hb⟩ := trod_flt Tryd.underlying22 ht'
      obtain ⟨_, _, hat⟩ := World.cells?_some hc
      refine ⟨b, wf_flt hb, ?_⟩
      have := hat 0 (by simp)
      simpa [Addr.add] using this
    obtain ⟨l, hll, hp⟩ := flist_of _ len key
    subst hll
    refine ⟨some a, l, cap, hcs, hl, by omega, fun i p hi => ?_⟩
    obtain ⟨h0, h1⟩ := hp i p hi
    exact ⟨h0, a, rfl, h1⟩
end
end Go.Proofs.YthpmhjlndnelfaaDoor.Real
