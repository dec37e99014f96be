/- Plain laws on floats of 64 bits: quotients, and their signs. No conditions but the width. -/
import Derived.Test.YthpmhjlndnelfaaDoorOwnAdd
namespace Go.Proofs.YthpmhjlndnelfaaDoor.Real
open Ieee

theorem read_ng (b : Nat) (hb : b < 18446744073709551616) : double.read (ng b) = (double.read b).opposite := by
  have hn := ng_facts b hb
  rw [read_eq b hb, read_eq (ng b) (ng_lt b hb), hn.1, hn.2.1]
  split
  · rfl
  · split
    · rfl
    · split <;> rfl

theorem not_xor' (s t : Bool) : ((!s) ^^ t) = !(s ^^ t) := by cases s <;> cases t <;> rfl
theorem xor_not' (s t : Bool) : (s ^^ (!t)) = !(s ^^ t) := by cases s <;> cases t <;> rfl

theorem quot_left (n : Nat) (x y : Datum) : Datum.quotient n x.opposite y = (Datum.quotient n x y).map Datum.opposite := by
  cases x <;> cases y <;> simp only [Datum.quotient, Datum.opposite, Option.map_none, Option.map_some, not_xor']
  split
  · split <;> rfl
  · rfl

theorem quot_right (n : Nat) (x y : Datum) : Datum.quotient n x y.opposite = (Datum.quotient n x y).map Datum.opposite := by
  cases x <;> cases y <;> simp only [Datum.quotient, Datum.opposite, Option.map_none, Option.map_some, xor_not']
  split
  · split <;> rfl
  · rfl

theorem quot_nn (n : Nat) (x y d : Datum) (h : Datum.quotient n x y = some d) : d.isNaN = false := by
  cases x <;> cases y <;> simp only [Datum.quotient, reduceCtorEq, Option.some.injEq] at h
  · split at h
    · split at h
      · cases h
      · cases h; rfl
    · cases h; rfl
  · cases h; rfl
  · cases h; rfl

/-- The rung nearest to a number; its sign doesn't matter. -/
def nr (m : Nat) (i : Int) : Nat :=
  if m = 0 then 0 else
  let last := max (i + m.log2 - double.fractionBits) double.leastPlace
  let kept := Toward.even.cut false (m <<< (i - last).toNat) (last - i).toNat
  min ((last - double.leastPlace).toNat * double.binade + kept) double.infRung

theorem nearest_nr (s : Bool) (m : Nat) (i : Int) : double.nearest s m i = double.word s (nr m i) := by
  unfold Format.nearest nr
  split <;> rfl

theorem nr_le (m : Nat) (i : Int) : nr m i ≤ 9218868437227405312 := by
  unfold nr
  split
  · exact Nat.zero_le _
  · rw [← c_inf]; exact Nat.min_le_right _ _

/-- What is written of no NaN: a sign and a rung up to the infinite one. -/
theorem write_nn (d : Datum) (h : d.isNaN = false) : ∃ r, r ≤ 9218868437227405312 ∧ double.write d = double.word d.neg r ∧ double.write d.opposite = double.word (!d.neg) r := by
  cases d with
  | nan s t => cases h
  | infinity s => exact ⟨9218868437227405312, Nat.le_refl _, by simp only [Format.write]; rw [c_inf]; rfl, by simp only [Format.write, Datum.opposite]; rw [c_inf]; rfl⟩
  | number s m i => exact ⟨nr m i, nr_le m i, nearest_nr s m i, nearest_nr (!s) m i⟩

theorem ng_word (s : Bool) (r : Nat) (h : r < 9223372036854775808) : ng (double.word s r) = double.word (!s) r := by
  obtain ⟨w1, w2, w3⟩ := sg_word s r h
  unfold ng
  rw [w1, word_of, word_of]
  cases s <;> simp <;> omega

theorem div_facts (a b : Nat) (ha : a < 18446744073709551616) (hb : b < 18446744073709551616) :
    (double.div a b = none ∧ double.div (ng a) b = none ∧ double.div a (ng b) = none) ∨
    ∃ q, double.div a b = some q ∧ double.div (ng a) b = some (ng q) ∧ double.div a (ng b) = some (ng q) ∧ q < 18446744073709551616 ∧ nan q = false := by
  unfold Format.div
  rw [read_ng a ha, read_ng b hb, quot_left, quot_right]
  cases h : Datum.quotient (double.fractionBits + 2) (double.read a) (double.read b) with
  | none => exact .inl ⟨rfl, rfl, rfl⟩
  | some d =>
    right
    obtain ⟨r, h1, h2, h3⟩ := write_nn d (quot_nn _ _ _ _ h)
    obtain ⟨w1, w2, w3⟩ := sg_word d.neg r (by omega)
    refine ⟨double.write d, rfl, ?_, ?_, by rw [h2]; exact w3, ?_⟩
    · simp only [Option.map_some]; rw [h3, h2, ng_word _ _ (by omega)]
    · simp only [Option.map_some]; rw [h3, h2, ng_word _ _ (by omega)]
    · rw [h2]
      unfold nan
      rw [w2]
      exact decide_eq_false (by omega)

theorem one_bits : double.nearest false (2 * 18014398509481984) (-55) = 4607182418800017408 := by decide +kernel

/-- A finite number that isn't 0, by itself. -/
theorem div_self (b : Nat) (hb : b < 18446744073709551616) (h1 : rg b < 9218868437227405312) (h0 : rg b ≠ 0) : double.div b b = some 4607182418800017408 := by
  have core : ∀ (s : Bool) (m : Nat) (i : Int), m ≠ 0 → (Datum.quotient (double.fractionBits + 2) (.number s m i) (.number s m i)).map double.write = some 4607182418800017408 := by
    intro s m i hm
    simp only [Datum.quotient]
    rw [if_neg hm, c_frac]
    have e1 : 52 + 2 + m.log2 - m.log2 = 54 := by omega
    simp only [e1]
    have hp : 0 < m := Nat.pos_of_ne_zero hm
    rw [Nat.shiftLeft_eq]
    have e2 : m * 2 ^ 54 / m = 18014398509481984 := by rw [Nat.mul_div_cancel_left _ hp]
    have e3 : m * 2 ^ 54 % m = 0 := Nat.mul_mod_right _ _
    rw [e2, e3, Bool.xor_self]
    have e4 : i - i - ((54 : Nat) : Int) - 1 = -55 := by omega
    rw [e4]
    simp only [Option.map_some, Format.write]
    exact congrArg some one_bits
  unfold Format.div
  rw [read_eq b hb]
  by_cases hs : rg b < 4503599627370496
  · rw [if_pos hs]; exact core _ _ _ h0
  · rw [if_neg hs, if_pos h1]; exact core _ _ _ (by omega)
end Go.Proofs.YthpmhjlndnelfaaDoor.Real
