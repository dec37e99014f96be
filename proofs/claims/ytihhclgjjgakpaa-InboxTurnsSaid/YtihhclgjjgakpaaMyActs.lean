/- A row of turns that came in reads as turns. -/
import Derived.Test.YtihhclgjjgakpaaMyTurnsEnd
import Derived.Deep.Slices
import Derived.Deep.Fields
import Derived.ChangeSame
namespace Go.Proofs.Ytihhclgjjgakpaa.Inbox
open Go.ChangeShapes Go.WideShapes Go.Deep

theorem list_of {α : Type} (P : Nat → α → Prop) : ∀ n : Nat, (∀ i, i < n → ∃ p, P i p) → ∃ l : List α, l.length = n ∧ ∀ i p, l[i]? = some p → P i p
  | 0, _ => ⟨[], rfl, fun i p h => by simp at h⟩
  | n + 1, h => by
    obtain ⟨l, hl, hp⟩ := list_of P n (fun i hi => h i (Nat.lt_succ_of_lt hi))
    obtain ⟨p, hq⟩ := h n (Nat.lt_succ_self n)
    refine ⟨l ++ [p], by simp [hl], fun i q hi => ?_⟩
    rcases Nat.lt_or_ge i l.length with hlt | hge
    · rw [List.getElem?_append_left hlt] at hi
      exact hp i q hi
    · rw [List.getElem?_append_right hge] at hi
      have h0 : i - l.length = 0 := by
        have := (List.getElem?_eq_some_iff.1 hi).1
        simp at this; omega
      rw [h0] at hi
      obtain rfl : p = q := by simpa using hi
      obtain rfl : i = n := by omega
      exact hq

section
variable {H : Type} {enc : TypeId × Value → H} {w : World} {base : Nat} {spare : Nat → Bool} {held : Bool}
theorem open_acts {fuel : Nat} {cs : List Value} {x : DataW H × List MemPlace} (h : DataW.trod enc Try.prog w base spare held fuel 50 cs = some x) :
    ∃ (A : Option Addr) (l : List (Int × ByteArray)) (c : Nat), cs = [.slice A l.length c] ∧ l.length ≤ c ∧ l.length ≤ maxLen ∧ Acts w A l := by
  rcases open_slice Try.underlying50 h with ⟨hcs, _⟩ | ⟨a, len, cap, m, n, D, Pl, hcs, hb, hl, hm, hmm, _, hi⟩
  · exact ⟨none, [], 0, hcs, Nat.le_refl _, Nat.zero_le _, fun i d s hi => by simp at hi⟩
  · have hC : Try.prog.cellsOf 52 = 2 := by kernel_rfl
    have c5 : Try.prog.cellsOf 5 = 1 := by kernel_rfl
    have c9 : Try.prog.cellsOf 9 = 1 := by kernel_rfl
    rw [hC] at hi
    have key : ∀ i, i < len → ∃ p : Int × ByteArray, w.cell? (a.add (i * 2)) = some (.int .u8 p.1) ∧ w.cell? (a.add (i * 2 + 1)) = some (.string p.2) ∧ 0 ≤ p.1 ∧ p.1 ≤ 255 := by
      intro i hil
      obtain ⟨cs', hc, ht'⟩ := hi i (by rw [hmm]; split <;> omega)
      obtain ⟨ys, n', _, _, hlen, hyl, hf⟩ := DataW.trod_struct Try.underlying52 ht'
      obtain ⟨_, hcl, hat⟩ := World.cells?_some hc
      rw [hC] at hlen
      match cs', hlen, ys, hyl with
      | [v0, v1], _, [y0, y1], _ =>
        have f0 : DataW.trod enc Try.prog w base spare held n' 5 ((([v0, v1] : List Value).drop 0).take (Try.prog.cellsOf 5)) = some y0 := hf 0 _ rfl
        have f1 : DataW.trod enc Try.prog w base spare held n' 9 ((([v0, v1] : List Value).drop 1).take (Try.prog.cellsOf 9)) = some y1 := hf 1 _ rfl
        rw [c5] at f0
        rw [c9] at f1
        obtain ⟨d, hd, _, hw⟩ := DataW.trod_int Try.underlying5 f0
        obtain ⟨s, hs, _, _⟩ := DataW.trod_string Try.underlying9 f1
        obtain rfl : v0 = .int .u8 d := by simpa using hd
        obtain rfl : v1 = .string s := by simpa using hs
        have := Own.wfu8 hw
        refine ⟨(d, s), ?_, ?_, by omega, by omega⟩
        · have := hat 0 (by omega)
          simpa [Addr.add] using this
        · have := hat 1 (by omega)
          rw [← add_add]
          simpa using this
    obtain ⟨l, hll, hp⟩ := list_of _ len key
    subst hll
    exact ⟨some a, l, cap, hcs, hl, by omega, fun i d s hi => ⟨a, rfl, hp i (d, s) hi⟩⟩
end
end Go.Proofs.Ytihhclgjjgakpaa.Inbox
