/- WordOrder: of one size numbers stand as their bytes do; sums come in any order; a difference is undone where the sum did not meet its end. No conditions. -/
import Derived.Test.YtihhclgjjgakpaaPWordOrderx1
import Derived.Test.YtihhclgjjgakpaaOwnBytes
namespace Go.Proofs.Ytihhclgjjgakpaa.Pure
open Go.RowKit Go.Proofs.Ytihhclgjjgakpaa.PWordOrder Go.Proofs.YtihhclgjjgakpaaW.PrintWords Go.Proofs.YtihhclgjjgakpaaW.PrintLast Go.Proofs.YtihhclgjjgakpaaW.PrintMore
open Go.Proofs.Ytihhclgjjgakpaa.Own

theorem word_awake : vagabondlaw01_awake.f 10 = some true := by decide +kernel

theorem word_put8 (a : Int) : word_Put.f 10 a 8 = some (strOfNums (be 8 a)) := by
  simp [word_Put.f, word_Put.l0, mn, mx, wrap64, be]

def sat (a b : Int) : Int := if a + b ≤ 18446744073709551615 then a + b else 18446744073709551615

theorem add_sat (a b : Int) (h0 : 0 ≤ a) (_ : a < 18446744073709551616) (h2 : 0 ≤ b) (h3 : b < 18446744073709551616) : word_Add.f a b = some (sat a b) := by
  unfold word_Add.f sat
  rw [IntKind.wrap_u64, IntKind.wrap_u64]
  by_cases h : a + b ≤ 18446744073709551615
  · rw [if_neg (by omega), if_pos h]; congr 1; omega
  · rw [if_pos (by omega), if_neg h]

theorem sat_bounds (a b : Int) (h0 : 0 ≤ a) (h2 : 0 ≤ b) : 0 ≤ sat a b ∧ sat a b < 18446744073709551616 := by
  unfold sat; split <;> omega

theorem sat_comm (a b : Int) : sat a b = sat b a := by unfold sat; rw [Int.add_comm]

theorem sat_assoc (a b c : Int) (h0 : 0 ≤ a) (_ : 0 ≤ b) (h2 : 0 ≤ c) : sat (sat a b) c = sat a (sat b c) := by
  unfold sat; split <;> split <;> split <;> (try split) <;> omega

theorem WordOrder : vagabondlaw01_WordOrder.Pure := by
  intro a b c ha hb hc
  obtain ⟨a0, a1⟩ := wf64 ha
  obtain ⟨b0, b1⟩ := wf64 hb
  obtain ⟨c0, c1⟩ := wf64 hc
  refine ⟨10, ?_⟩
  have hl : Op.bytesLess (strOfNums (be 8 a)).toList (strOfNums (be 8 b)).toList = decide (a < b) := by
    rw [toList_str, toList_str, less_val _ _ (by simp [be_length])]
    have h1 := val_be 8 a
    have h2 := val_be 8 b
    unfold u8s at h1 h2
    rw [Bool.eq_iff_iff]
    simp only [decide_eq_true_eq]
    omega
  have hs := sat_bounds a b a0 b0
  have hs' := sat_bounds b c b0 c0
  unfold vagabondlaw01_WordOrder.f
  rw [word_awake, word_put8, word_put8]
  simp only [Option.bind_some, hl, if_true]
  rw [add_sat a b a0 a1 b0 b1, add_sat b a b0 b1 a0 a1, add_sat b c b0 b1 c0 c1]
  simp only [Option.bind_some, sat_comm b a, if_true]
  rw [add_sat _ c hs.1 hs.2 c0 c1, add_sat a _ a0 a1 hs'.1 hs'.2]
  simp only [Option.bind_some, sat_assoc a b c a0 b0 c0, if_true, word_Sub.f, IntKind.wrap_u64, mn, beq_self_eq_true]
  unfold sat
  split
  · simp
  · rw [if_pos (by split <;> split <;> omega)]
    simp

end Go.Proofs.Ytihhclgjjgakpaa.Pure
