/- Many cells stored at once: what a block holds behind it. No conditions. -/
import Derived.Test.YtiblkbkdfebfbaaMySched
namespace Go.Proofs.Ytiblkbkdfebfbaa.Aes
open Go.RowKit Go.Proofs.Ytiblkbkdfebfbaa.Own

theorem setCells_far (g : Nat) : ∀ (vs : List Value) (o : Nat) (w : World) (k : Nat), k ≠ g → (w.setCells g o vs).heap[k]? = w.heap[k]?
  | [], _, _, _, _ => rfl
  | v :: r, o, w, k, h => (setCells_far g r (o + 1) (w.setCell ⟨g, o, none⟩ v) k h).trans (heap_setCell_other w ⟨g, o, none⟩ k v h)
theorem setCells_same (g : Nat) (t : TypeId) : ∀ (vs : List Value) (o : Nat) (w : World) (cs : Array Value), Bx w g cs t → ∃ cs' : Array Value, Bx (w.setCells g o vs) g cs' t ∧ cs'.size = cs.size
  | [], _, _, cs, h => ⟨cs, h, rfl⟩
  | v :: r, o, w, cs, h => by
    obtain ⟨cs', h1, h2⟩ := setCells_same g t r (o + 1) (w.setCell ⟨g, o, none⟩ v) (cs.setIfInBounds o v) (put_of h o v rfl)
    exact ⟨cs', h1, by rw [h2]; simp⟩
theorem setCells_below (B g : Nat) (w0 : World) (hg : B ≤ g) : ∀ (vs : List Value) (o : Nat) (w : World), Below B w0 w → Below B w0 (w.setCells g o vs)
  | [], _, _, h => h
  | v :: r, o, w, h => setCells_below B g w0 hg r (o + 1) (w.setCell ⟨g, o, none⟩ v) (h.setCell hg v)
/-- A block that is written whole. -/
theorem setCells_row (g : Nat) (t : TypeId) (vs : List Value) (w : World) (cs : Array Value) (h : Bx w g cs t) (hl : vs.length = cs.size) : Bx (w.setCells g 0 vs) g vs.toArray t := by
  obtain ⟨cs', h1, h2⟩ := setCells_same g t vs 0 w cs h
  suffices e : cs' = vs.toArray by rw [← e]; exact h1
  apply Array.ext_getElem?
  intro j
  by_cases hj : j < vs.length
  · have hc := World.cell?_setCells_in g vs 0 w (fun i hi => by
      rw [cell_of h, Array.getElem?_eq_getElem (by omega)]
      rfl) j hj
    rw [cell_of h1, Nat.zero_add] at hc
    rw [hc]
    simp [hj]
  · rw [Array.getElem?_eq_none (by omega), Array.getElem?_eq_none (by simp; omega)]
end Go.Proofs.Ytiblkbkdfebfbaa.Aes
