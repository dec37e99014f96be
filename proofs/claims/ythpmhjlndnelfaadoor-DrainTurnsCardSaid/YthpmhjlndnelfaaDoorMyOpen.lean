/- A row of turns of a drain that came in reads as turns. -/
import Derived.Test.YthpmhjlndnelfaaDoorMyDrain3
import Derived.Deep.Slices
import Derived.Deep.Fields
import Derived.ChangeSame
namespace Go.Proofs.YthpmhjlndnelfaaDoor.Real
open Go.ChangeShapes Go.WideShapes Go.Deep

theorem list_of {α : Type} (P : Nat → α → Prop) : ∀ n : Nat, (∀ i, i < n → ∃ p, P i p) → ∃ l : List α, l.length = n ∧ ∀ i p, l[i]? = some p → P i p
  | 0, _ => ⟨[], rfl, fun i p h => by simp at h⟩
  | n + 1, h => by
    obtain ⟨l, hl, hp⟩ := list_of P n (fun i hi => h i (Nat.lt_succ_of_lt hi))
    obtain ⟨p, hq⟩ := h n (Nat.lt_succ_self n)
    refine ⟨l ++ [p], by simp [hl], fun i q hi => ?_⟩
    rcases Nat.lt_or_ge i l.length with hlt | hge
    · rw [List.getElem?_append_left hlt] at hi
      exact hp i q hi
    · rw [List.getElem?_append_right hge] at hi
      have h0 : i - l.length = 0 := by
        have := (List.getElem?_eq_some_iff.1 hi).1
        simp at this; omega
      rw [h0] at hi
      obtain rfl : p = q := by simpa using hi
      obtain rfl : i = n := by omega
      exact hq

theorem bd_u8 {a : Int} (h : (Lit.int .u8 a).wf = true) : 0 ≤ a ∧ a ≤ 255 := by
  simp [Lit.wf, IntKind.min, IntKind.max, IntKind.signed, IntKind.bits] at h
  omega
theorem bd_u64 {a : Int} (h : (Lit.int .u64 a).wf = true) : 0 ≤ a ∧ a < 18446744073709551616 := by
  simp [Lit.wf, IntKind.min, IntKind.max, IntKind.signed, IntKind.bits] at h
  omega
theorem bd_i64 {a : Int} (h : (Lit.int .i64 a).wf = true) : -9223372036854775808 ≤ a ∧ a ≤ 9223372036854775807 := by
  simp [Lit.wf, IntKind.min, IntKind.max, IntKind.signed, IntKind.bits] at h
  omega

section
variable {H : Type} {enc : TypeId × Value → H} {w : World} {base : Nat} {spare : Nat → Bool} {held : Bool}
set_option maxRecDepth 100000 in
theorem open_acts {fuel : Nat} {cs : List Value} {x : DataW H × List MemPlace} (h : DataW.trod enc Tryd.prog w base spare held fuel 39 cs = some x) :
    ∃ (A : Option Addr) (l : List Act) (c : Nat), cs = [.slice A l.length c] ∧ l.length ≤ c ∧ l.length ≤ maxLen ∧ Acts w A l := by
  rcases open_slice Tryd.underlying39 h with ⟨hcs, _⟩ | ⟨a, len, cap, m, n, D, Pl, hcs, hb, hl, hm, hmm, _, hi⟩
  · exact ⟨none, [], 0, hcs, Nat.le_refl _, Nat.zero_le _, fun i a hi => by simp at hi⟩
  · have hC : Tryd.prog.cellsOf 46 = 4 := by kernel_rfl
    have c5 : Tryd.prog.cellsOf 5 = 1 := by kernel_rfl
    have c29 : Tryd.prog.cellsOf 29 = 1 := by kernel_rfl
    have c3 : Tryd.prog.cellsOf 3 = 1 := by kernel_rfl
    rw [hC] at hi
    have key : ∀ i, i < len → ∃ p : Act, p.Ok ∧ w.cell? (a.add (i * 4)) = some (.int .u8 p.go) ∧ w.cell? (a.add (i * 4 + 1)) = some (.int .u64 p.now) ∧ w.cell? (a.add (i * 4 + 2)) = some (.int .u64 p.n) ∧ w.cell? (a.add (i * 4 + 3)) = some (.int .i64 p.live) := by
      intro i hil
      obtain ⟨cs', hc, ht'⟩ := hi i (by rw [hmm]; split <;> omega)
      obtain ⟨ys, n', _, _, hlen, hyl, hf⟩ := DataW.trod_struct Tryd.underlying46 ht'
      obtain ⟨_, hcl, hat⟩ := World.cells?_some hc
      rw [hC] at hlen
      match cs', hlen, ys, hyl with
      | [v0, v1, v2, v3], _, [y0, y1, y2, y3], _ =>
        have f0 : DataW.trod enc Tryd.prog w base spare held n' 5 ((([v0, v1, v2, v3] : List Value).drop 0).take (Tryd.prog.cellsOf 5)) = some y0 := hf 0 _ rfl
        have f1 : DataW.trod enc Tryd.prog w base spare held n' 29 ((([v0, v1, v2, v3] : List Value).drop 1).take (Tryd.prog.cellsOf 29)) = some y1 := hf 1 _ rfl
        have f2 : DataW.trod enc Tryd.prog w base spare held n' 29 ((([v0, v1, v2, v3] : List Value).drop 2).take (Tryd.prog.cellsOf 29)) = some y2 := hf 2 _ rfl
        have f3 : DataW.trod enc Tryd.prog w base spare held n' 3 ((([v0, v1, v2, v3] : List Value).drop 3).take (Tryd.prog.cellsOf 3)) = some y3 := hf 3 _ rfl
        rw [c5] at f0
        rw [c29] at f1 f2
        rw [c3] at f3
        obtain ⟨d0, h0, _, w0⟩ := DataW.trod_int Tryd.underlying5 f0
        obtain ⟨d1, h1, _, w1⟩ := DataW.trod_int Tryd.underlying29 f1
        obtain ⟨d2, h2, _, w2⟩ := DataW.trod_int Tryd.underlying29 f2
        obtain ⟨d3, h3, _, w3⟩ := DataW.trod_int Tryd.underlying3 f3
        obtain rfl : v0 = .int .u8 d0 := by simpa using h0
        obtain rfl : v1 = .int .u64 d1 := by simpa using h1
        obtain rfl : v2 = .int .u64 d2 := by simpa using h2
        obtain rfl : v3 = .int .i64 d3 := by simpa using h3
        refine ⟨⟨d0, d1, d2, d3⟩, ⟨(bd_u8 w0).1, (bd_u8 w0).2, (bd_u64 w1).1, (bd_u64 w1).2, (bd_u64 w2).1, (bd_u64 w2).2, (bd_i64 w3).1, (bd_i64 w3).2⟩, ?_, ?_, ?_, ?_⟩
        · have := hat 0 (by omega)
          simpa [Addr.add] using this
        · have := hat 1 (by omega)
          rw [← add_add]
          simpa using this
        · have := hat 2 (by omega)
          rw [← add_add]
          simpa using this
        · have := hat 3 (by omega)
          rw [← add_add]
          simpa using this
    obtain ⟨l, hll, hp⟩ := list_of _ len key
    subst hll
    refine ⟨some a, l, cap, hcs, hl, by omega, fun i p hi => ?_⟩
    obtain ⟨h0, h1⟩ := hp i p hi
    exact ⟨h0, a, rfl, h1⟩
end
end Go.Proofs.YthpmhjlndnelfaaDoor.Real
