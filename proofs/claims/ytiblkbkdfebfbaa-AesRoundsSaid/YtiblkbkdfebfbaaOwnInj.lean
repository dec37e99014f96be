/- Unlike blocks are encrypted unlike: as plain numbers. No conditions. -/
import Derived.Test.YtiblkbkdfebfbaaOwnTable
namespace Go.Proofs.Ytiblkbkdfebfbaa.Aes
open Go.RowKit Go.Proofs.Ytiblkbkdfebfbaa.Own

theorem c_a : ∀ a : B8, tm (tm a 2#8) 14#8 ^^^ tm a 11#8 ^^^ tm a 13#8 ^^^ tm (tm a 3#8) 9#8 = a := by decide +kernel
theorem c_b : ∀ b : B8, tm (tm b 3#8) 14#8 ^^^ tm (tm b 2#8) 11#8 ^^^ tm b 13#8 ^^^ tm b 9#8 = 0#8 := by decide +kernel
theorem c_c : ∀ c : B8, tm c 14#8 ^^^ tm (tm c 3#8) 11#8 ^^^ tm (tm c 2#8) 13#8 ^^^ tm c 9#8 = 0#8 := by decide +kernel
theorem c_d : ∀ d : B8, tm d 14#8 ^^^ tm d 11#8 ^^^ tm (tm d 3#8) 13#8 ^^^ tm (tm d 2#8) 9#8 = 0#8 := by decide +kernel

theorem imx4 (a b c d : B8) :
    tm (((tm a 2#8 ^^^ tm b 3#8) ^^^ c) ^^^ d) 14#8 ^^^ tm (((tm b 2#8 ^^^ tm c 3#8) ^^^ d) ^^^ a) 11#8 ^^^ tm (((tm c 2#8 ^^^ tm d 3#8) ^^^ a) ^^^ b) 13#8 ^^^ tm (((tm d 2#8 ^^^ tm a 3#8) ^^^ b) ^^^ c) 9#8 = a := by
  have e : tm (((tm a 2#8 ^^^ tm b 3#8) ^^^ c) ^^^ d) 14#8 ^^^ tm (((tm b 2#8 ^^^ tm c 3#8) ^^^ d) ^^^ a) 11#8 ^^^ tm (((tm c 2#8 ^^^ tm d 3#8) ^^^ a) ^^^ b) 13#8 ^^^ tm (((tm d 2#8 ^^^ tm a 3#8) ^^^ b) ^^^ c) 9#8 =
      (tm (tm a 2#8) 14#8 ^^^ tm a 11#8 ^^^ tm a 13#8 ^^^ tm (tm a 3#8) 9#8) ^^^ (tm (tm b 3#8) 14#8 ^^^ tm (tm b 2#8) 11#8 ^^^ tm b 13#8 ^^^ tm b 9#8) ^^^
      (tm c 14#8 ^^^ tm (tm c 3#8) 11#8 ^^^ tm (tm c 2#8) 13#8 ^^^ tm c 9#8) ^^^ (tm d 14#8 ^^^ tm d 11#8 ^^^ tm (tm d 3#8) 13#8 ^^^ tm (tm d 2#8) 9#8) := by
    simp only [tm_a]
    ac_rfl
  rw [e, c_a, c_b, c_c, c_d, BitVec.xor_zero, BitVec.xor_zero, BitVec.xor_zero]

theorem mx_inj (f h : Nat → B8) (e : ∀ i, i < 16 → mx f i = mx h i) : ∀ i, i < 16 → f i = h i := by
  have col : ∀ (p q r s : Nat), mx f p = mx h p → mx f q = mx h q → mx f r = mx h r → mx f s = mx h s →
      (∀ g : Nat → B8, mx g p = ((tm (g p) 2#8 ^^^ tm (g q) 3#8) ^^^ g r) ^^^ g s) → (∀ g : Nat → B8, mx g q = ((tm (g q) 2#8 ^^^ tm (g r) 3#8) ^^^ g s) ^^^ g p) →
      (∀ g : Nat → B8, mx g r = ((tm (g r) 2#8 ^^^ tm (g s) 3#8) ^^^ g p) ^^^ g q) → (∀ g : Nat → B8, mx g s = ((tm (g s) 2#8 ^^^ tm (g p) 3#8) ^^^ g q) ^^^ g r) → f p = h p := by
    intro p q r s e1 e2 e3 e4 d1 d2 d3 d4
    rw [d1, d1] at e1
    rw [d2, d2] at e2
    rw [d3, d3] at e3
    rw [d4, d4] at e4
    have i1 := imx4 (f p) (f q) (f r) (f s)
    have i2 := imx4 (h p) (h q) (h r) (h s)
    rw [e1, e2, e3, e4] at i1
    rw [← i1, i2]
  intro i hi
  have hh : ∀ p q r s, p < 16 → q < 16 → r < 16 → s < 16 → _ := fun p q r s h1 h2 h3 h4 => col p q r s (e p h1) (e q h2) (e r h3) (e s h4)
  obtain rfl | rfl | rfl | rfl | rfl | rfl | rfl | rfl | rfl | rfl | rfl | rfl | rfl | rfl | rfl | rfl : i = 0 ∨ i = 1 ∨ i = 2 ∨ i = 3 ∨ i = 4 ∨ i = 5 ∨ i = 6 ∨ i = 7 ∨ i = 8 ∨ i = 9 ∨ i = 10 ∨ i = 11 ∨ i = 12 ∨ i = 13 ∨ i = 14 ∨ i = 15 := by omega
  · exact hh 0 1 2 3 (by omega) (by omega) (by omega) (by omega) (fun _ => rfl) (fun _ => rfl) (fun _ => rfl) (fun _ => rfl)
  · exact hh 1 2 3 0 (by omega) (by omega) (by omega) (by omega) (fun _ => rfl) (fun _ => rfl) (fun _ => rfl) (fun _ => rfl)
  · exact hh 2 3 0 1 (by omega) (by omega) (by omega) (by omega) (fun _ => rfl) (fun _ => rfl) (fun _ => rfl) (fun _ => rfl)
  · exact hh 3 0 1 2 (by omega) (by omega) (by omega) (by omega) (fun _ => rfl) (fun _ => rfl) (fun _ => rfl) (fun _ => rfl)
  · exact hh 4 5 6 7 (by omega) (by omega) (by omega) (by omega) (fun _ => rfl) (fun _ => rfl) (fun _ => rfl) (fun _ => rfl)
  · exact hh 5 6 7 4 (by omega) (by omega) (by omega) (by omega) (fun _ => rfl) (fun _ => rfl) (fun _ => rfl) (fun _ => rfl)
  · exact hh 6 7 4 5 (by omega) (by omega) (by omega) (by omega) (fun _ => rfl) (fun _ => rfl) (fun _ => rfl) (fun _ => rfl)
  · exact hh 7 4 5 6 (by omega) (by omega) (by omega) (by omega) (fun _ => rfl) (fun _ => rfl) (fun _ => rfl) (fun _ => rfl)
  · exact hh 8 9 10 11 (by omega) (by omega) (by omega) (by omega) (fun _ => rfl) (fun _ => rfl) (fun _ => rfl) (fun _ => rfl)
  · exact hh 9 10 11 8 (by omega) (by omega) (by omega) (by omega) (fun _ => rfl) (fun _ => rfl) (fun _ => rfl) (fun _ => rfl)
  · exact hh 10 11 8 9 (by omega) (by omega) (by omega) (by omega) (fun _ => rfl) (fun _ => rfl) (fun _ => rfl) (fun _ => rfl)
  · exact hh 11 8 9 10 (by omega) (by omega) (by omega) (by omega) (fun _ => rfl) (fun _ => rfl) (fun _ => rfl) (fun _ => rfl)
  · exact hh 12 13 14 15 (by omega) (by omega) (by omega) (by omega) (fun _ => rfl) (fun _ => rfl) (fun _ => rfl) (fun _ => rfl)
  · exact hh 13 14 15 12 (by omega) (by omega) (by omega) (by omega) (fun _ => rfl) (fun _ => rfl) (fun _ => rfl) (fun _ => rfl)
  · exact hh 14 15 12 13 (by omega) (by omega) (by omega) (by omega) (fun _ => rfl) (fun _ => rfl) (fun _ => rfl) (fun _ => rfl)
  · exact hh 15 12 13 14 (by omega) (by omega) (by omega) (by omega) (fun _ => rfl) (fun _ => rfl) (fun _ => rfl) (fun _ => rfl)

theorem ti_hits : ∀ i : Fin 16, ∃ j : Fin 16, ti j.1 = i.1 := by decide +kernel
theorem tu_inj (f h : Nat → B8) (e : ∀ i, i < 16 → tu sT f i = tu sT h i) : ∀ i, i < 16 → f i = h i := by
  intro i hi
  obtain ⟨j, hj⟩ := ti_hits ⟨i, hi⟩
  have := sT_inj _ _ (e j.1 j.2)
  rw [hj] at this
  exact this
theorem xo_inj (f h k : Nat → B8) (e : ∀ i, i < 16 → xo f k i = xo h k i) : ∀ i, i < 16 → f i = h i := by
  intro i hi
  have h1 : f i ^^^ k i = h i ^^^ k i := e i hi
  have h2 := congrArg (· ^^^ k i) h1
  simpa [BitVec.xor_assoc] using h2
theorem er_inj (wf f h : Nat → B8) : ∀ r, (∀ i, i < 16 → er wf sT f r i = er wf sT h r i) → ∀ i, i < 16 → f i = h i
  | 0, e => xo_inj f h _ e
  | r + 1, e => by
    have e1 := xo_inj _ _ _ e
    refine er_inj wf f h r (tu_inj _ _ ?_)
    by_cases h9 : r + 1 < 10
    · rw [if_pos h9, if_pos h9] at e1
      exact mx_inj _ _ e1
    · rw [if_neg h9, if_neg h9] at e1
      exact e1
end Go.Proofs.Ytiblkbkdfebfbaa.Aes
