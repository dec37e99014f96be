/- Plain laws on floats of 64 bits: sums of numbers that are not below 0, and their means. No conditions but the width. -/
import Derived.Test.YthpmhjlndnelfaaDoorMyRatios
import Derived.Test.YthpmhjlndnelfaaDoorMyWholes
namespace Go.Proofs.YthpmhjlndnelfaaDoor.Real
open Ieee

/-- A number that is not below 0. -/
structure Good (b : Nat) : Prop where
  lt : b < 18446744073709551616
  nn : nan b = false
  ns : sg b = false

theorem good_zero : Good 0 := ⟨by omega, by decide, by decide⟩
theorem good_word (r : Nat) (h : r ≤ 9218868437227405312) : Good (double.word false r) := by
  obtain ⟨w1, w2, w3⟩ := sg_word false r (by omega)
  refine ⟨w3, ?_, w1⟩
  unfold nan
  rw [w2]
  exact decide_eq_false (by omega)
theorem good_nr (x : Nat) : Good (nr x 0) := by
  have h := nr_bits x
  refine ⟨h.1, h.2.1, ?_⟩
  have hl := nr_le x 0
  unfold sg
  exact decide_eq_false (by omega)

theorem read_good (b : Nat) (h : Good b) : (∃ m i, double.read b = .number false m i ∧ (rg b ≠ 0 → m ≠ 0)) ∨ double.read b = .infinity false := by
  have hn := h.nn
  unfold nan at hn
  rw [decide_eq_false_iff_not] at hn
  rw [read_eq b h.lt, h.ns]
  by_cases h1 : rg b < 4503599627370496
  · rw [if_pos h1]; exact .inl ⟨_, _, rfl, fun e => e⟩
  · rw [if_neg h1]
    by_cases h2 : rg b < 9218868437227405312
    · rw [if_pos h2]; exact .inl ⟨_, _, rfl, fun _ => by omega⟩
    · rw [if_neg h2, if_pos (by omega)]; exact .inr rfl

theorem add_good (a b : Nat) (ha : Good a) (hb : Good b) : ∃ c, double.add a b = some c ∧ Good c := by
  unfold Format.add
  have hi : Good (double.write (.infinity false)) := by
    simp only [Format.write]; rw [c_inf]; exact good_word _ (Nat.le_refl _)
  rcases read_good a ha with ⟨m, i, e1, _⟩ | e1 <;> rcases read_good b hb with ⟨n, j, e2, _⟩ | e2 <;> rw [e1, e2]
  · simp only [Datum.sum, Option.map_some]
    refine ⟨_, rfl, ?_⟩
    have hs : ∀ (x k : Nat), 0 ≤ signed false x k := fun x k => by rw [signed_eq]; unfold sgn; simp only [if_false, Bool.false_eq_true]; omega
    have h1 := hs m (i - min i j).toNat
    have h2 := hs n (j - min i j).toNat
    have e3 : (if signed false m (i - min i j).toNat + signed false n (j - min i j).toNat = 0 then false && false else decide (signed false m (i - min i j).toNat + signed false n (j - min i j).toNat < 0)) = false := by
      split
      · rfl
      · exact decide_eq_false (by omega)
    rw [e3]
    simp only [Format.write]
    rw [nearest_nr]
    exact good_word _ (nr_le _ _)
  · exact ⟨_, rfl, hi⟩
  · exact ⟨_, rfl, hi⟩
  · simp only [Datum.sum, if_true, Option.map_some]
    exact ⟨_, rfl, hi⟩

def addF (s : Nat) (z : Int) : Nat := (double.add s (nr z.toNat 0)).getD 0
def sumF (l : List Int) : Nat := l.foldl addF 0

theorem addF_good (s : Nat) (z : Int) (h : Good s) : double.add s (nr z.toNat 0) = some (addF s z) ∧ Good (addF s z) := by
  obtain ⟨c, h1, h2⟩ := add_good s _ h (good_nr z.toNat)
  unfold addF
  rw [h1]
  exact ⟨rfl, h2⟩

theorem sumF_good (l : List Int) : Good (sumF l) := by
  unfold sumF
  have : ∀ (l : List Int) (s : Nat), Good s → Good (l.foldl addF s) := by
    intro l
    induction l with
    | nil => intro s h; exact h
    | cons z l ih => intro s h; exact ih _ (addF_good s z h).2
  exact this l 0 good_zero

theorem sumF_snoc (l : List Int) (z : Int) : sumF (l ++ [z]) = addF (sumF l) z := by simp [sumF]

theorem div_good (a x : Nat) (ha : Good a) (h0 : x ≠ 0) (hx : x < 9007199254740992) : ∃ q, double.div a (nr x 0) = some q ∧ q < 18446744073709551616 ∧ nan q = false := by
  have hg := good_nr x
  have hr : rg (nr x 0) ≠ 0 := by
    rw [(nr_bits x).2.2.2]
    intro e
    have := (nr_small x h0 hx).2
    rw [e] at this
    have hv : vl BB 0 = 0 := by unfold vl; rw [if_pos BB_pos]
    rw [hv] at this
    have hp : 0 < x * U := Nat.mul_pos (Nat.pos_of_ne_zero h0) U_pos
    omega
  have hfin : double.read (nr x 0) ≠ .infinity false := by
    intro e
    have hlt := (nr_small x h0 hx).1
    obtain ⟨m, p, e2, _⟩ := read_num (nr x 0) hg.lt (by rw [(nr_bits x).2.2.2]; exact hlt)
    rw [e] at e2
    cases e2
  rcases div_facts a (nr x 0) ha.lt hg.lt with ⟨h1, _⟩ | ⟨q, h1, _, _, h2, h3⟩
  · exfalso
    unfold Format.div at h1
    rcases read_good _ hg with ⟨n, j, e2, hn⟩ | e2
    · rw [e2] at h1
      rcases read_good a ha with ⟨m, i, e1, _⟩ | e1 <;> rw [e1] at h1
      · simp only [Datum.quotient] at h1
        rw [if_neg (hn hr)] at h1
        cases h1
      · simp only [Datum.quotient] at h1
        cases h1
    · exact hfin e2
  · exact ⟨q, h1, h2, h3⟩
theorem div_zeros : double.div 0 0 = none := by decide +kernel
theorem nr_zero : nr 0 0 = 0 := by unfold nr; simp
end Go.Proofs.YthpmhjlndnelfaaDoor.Real
