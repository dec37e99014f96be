/- Arrays of bytes in memory; whole arrays and structs that are read and written. No conditions. -/
import Derived.Test.YtiblkbkdfebfbaaMyTimes
import Derived.Deep.MidRow
import Derived.Deep.LoopGhost
import Derived.Below
import Derived.Laws.CopyOwn
import Derived.Laws.Tables
namespace Go.Proofs.Ytiblkbkdfebfbaa.Aes
open Go.RowKit Go.Proofs.Ytiblkbkdfebfbaa.Own

/-- A fact that no tactic looks into till it is opened. -/
structure Aside0 (p : Prop) : Prop where
  out : p

/-- A row of bytes, as cells. -/
def ba (n : Nat) (f : Nat → B8) : Array Value := Array.ofFn (fun i : Fin n => Value.int .u8 ((f i).toNat : Int))

theorem ba_size (n : Nat) (f : Nat → B8) : (ba n f).size = n := by simp [ba]
theorem ba_get (n : Nat) (f : Nat → B8) (i : Nat) (h : i < n) : (ba n f)[i]? = some (.int .u8 ((f i).toNat : Int)) := by
  simp [ba, h]
def upd (f : Nat → B8) (i : Nat) (v : B8) : Nat → B8 := fun j => if j = i then v else f j
theorem ba_set (n : Nat) (f : Nat → B8) (i : Nat) (v : B8) : (ba n f).setIfInBounds i (.int .u8 (v.toNat : Int)) = ba n (upd f i v) := by
  apply Array.ext
  · simp [ba]
  · intro j h1 h2
    simp [ba] at h1 h2
    simp [ba, upd, Array.getElem_setIfInBounds, h1]
    by_cases e : i = j
    · subst e; simp
    · simp [e, Ne.symm e]
theorem ba_zero (n : Nat) : Array.replicate n (Value.int .u8 0) = ba n (fun _ => 0#8) := by
  apply Array.ext
  · simp [ba]
  · intro j h1 h2
    simp [ba]

theorem ba_one (n : Nat) (f : Nat → B8) : (ba n f).all (·.oneCell') = true := by
  rw [Array.all_eq_true]
  intro i h
  simp [ba] at h
  simp [ba, Value.oneCell']

/-- A box, by its number. -/
abbrev Bx (w : World) (g : Nat) (cs : Array Value) (t : TypeId) : Prop := w.heap[g]? = some (.cells cs t (0, 0))

theorem cell_of {w : World} {g : Nat} {t : TypeId} {cs : Array Value} (h : Bx w g cs t) (i : Nat) : w.cell? ⟨g, i, none⟩ = cs[i]? := cell_of_row w g i cs t (0, 0) h
theorem frozen_of {w : World} {g : Nat} {t : TypeId} {cs : Array Value} (h : Bx w g cs t) (i : Nat) : w.frozen? ⟨g, i, none⟩ = false := by simp [World.frozen?, h]
theorem lt_of {w : World} {g : Nat} {t : TypeId} {cs : Array Value} (h : Bx w g cs t) : g < w.heap.size := (Array.getElem?_eq_some_iff.1 h).1
theorem new_of (w : World) (cs : Array Value) (t : TypeId) : Bx (w.alloc (.cells cs t)) w.heap.size cs t := heap_alloc_new w _
theorem old_of {w : World} {g : Nat} {t : TypeId} {cs : Array Value} (h : Bx w g cs t) (o : Obj) : Bx (w.alloc o) g cs t := (heap_alloc_old w o (lt_of h)).trans h
theorem put_of {w : World} {g : Nat} {t : TypeId} {cs cs' : Array Value} (h : Bx w g cs t) (i : Nat) (v : Value) (e : cs.setIfInBounds i v = cs') : Bx (w.setCell ⟨g, i, none⟩ v) g cs' t := e ▸ heap_setCell_same w g i cs t v h
theorem far_of {w : World} {g : Nat} {t : TypeId} {cs : Array Value} (h : Bx w g cs t) {a : Addr} (hne : g ≠ a.block) (v : Value) : Bx (w.setCell a v) g cs t := (heap_setCell_other w a g v hne).trans h
theorem row_of {w : World} {g : Nat} {t : TypeId} {cs : Array Value} (h : Bx w g cs t) (cs' : Array Value) : Bx (w.setRow g cs') g cs' t := setRow_heap w g cs cs' t (0, 0) h
theorem row_far {w : World} {g g' : Nat} {t : TypeId} {cs : Array Value} (h : Bx w g cs t) (hne : g ≠ g') (cs' : Array Value) : Bx (w.setRow g' cs') g cs t := (setRow_other w g' g cs' hne).trans h
theorem below_of {w w1 : World} {g : Nat} {t : TypeId} {cs : Array Value} (h : Bx w g cs t) (hb : Below w.heap.size w w1) : Bx w1 g cs t := (hb.block g (lt_of h)).trans h

/-- p and q of the table, round by round; what the table holds. -/
def pq : Nat → B8 × B8
  | 0 => (1#8, 1#8)
  | k + 1 => (tm (pq k).1 3#8, tm (pq k).2 246#8)
def rot (q : B8) (n : Nat) : B8 := q.rotateLeft n
def cz (q : B8) : B8 := (((q ^^^ rot q 1) ^^^ rot q 2) ^^^ rot q 3) ^^^ rot q 4 ^^^ 99#8
end Go.Proofs.Ytiblkbkdfebfbaa.Aes
