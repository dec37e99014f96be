/- Cut of texts: what it answers, and its contract. The condition: no more than 1,000,000 sizes. -/
import Derived.Test.YtihhclgjjgakpaaMyPushed
import Derived.Test.YtihhclgjjgakpaaPWordPartsx1
namespace Go.Proofs.Ytihhclgjjgakpaa.Inbox
open Go.RowKit Go.Proofs.YtihhclgjjgakpaaW.PrintWords Go.Proofs.YtihhclgjjgakpaaW.PrintLast Go.Proofs.YtihhclgjjgakpaaW.PrintMore

/-- The parts of a text, or the first error. -/
def cutS : ByteArray → List Int → List ByteArray × Int
  | s, [] => ([s], 0)
  | s, n :: ns => if n < 0 then ([], 2) else if n > (s.size : Int) then ([], 3) else
      if (cutS (s.extract n.toNat s.size) ns).2 = 0 then (s.extract 0 n.toNat :: (cutS (s.extract n.toNat s.size) ns).1, 0) else ([], (cutS (s.extract n.toNat s.size) ns).2)

theorem cutS_bad (s : ByteArray) (l : List Int) (h : (cutS s l).2 ≠ 0) : (cutS s l).1 = [] := by
  cases l with
  | nil => simp [cutS] at h
  | cons n ns =>
    simp only [cutS] at h ⊢
    split
    · rfl
    · split
      · rfl
      · split
        · next h1 h2 h3 => simp [h1, h2, h3] at h
        · rfl

open Go.Proofs.Ytihhclgjjgakpaa.PWordParts in
theorem cut_loop (sizes : List Int) (hs : sizes.length ≤ 1000000) (r : Nat) : ∀ (k i : Nat) (s : ByteArray) (acc : List ByteArray), i + r = sizes.length → r < k → acc.length ≤ i →
    word_Cut.l0 k s acc sizes (sizes.length : Int) (i : Int) = some (if (cutS s (sizes.drop i)).2 = 0 then (acc ++ (cutS s (sizes.drop i)).1, 0) else ([], (cutS s (sizes.drop i)).2)) := by
  induction r with
  | zero =>
    intro k i s acc h1 h2 h3
    obtain ⟨k, rfl⟩ : ∃ m, k = m + 1 := ⟨k - 1, by omega⟩
    simp only [word_Cut.l0]
    rw [if_neg (by omega), if_pos (by omega), List.drop_eq_nil_of_le (by omega)]
    simp [cutS]
  | succ r ih =>
    intro k i s acc h1 h2 h3
    obtain ⟨k, rfl⟩ : ∃ m, k = m + 1 := ⟨k - 1, by omega⟩
    simp only [word_Cut.l0]
    rw [if_pos (by omega), if_pos (by omega), if_pos (by omega)]
    have hx : sizes.drop i = sizes[i]'(by omega) :: sizes.drop (i + 1) := List.drop_eq_getElem_cons (by omega)
    have e1 : rd sizes (i : Int) = sizes[i]'(by omega) := by simp [rd, List.getD, List.getElem?_eq_getElem (show i < sizes.length by omega)]
    have hw : wrap64 ((i : Int) + 1) = ((i + 1 : Nat) : Int) := by unfold wrap64; omega
    rw [e1, hx, hw]
    generalize sizes[i]'(by omega) = n
    simp only [cutS]
    by_cases h4 : n < 0
    · simp [h4]
    · by_cases h5 : n > (s.size : Int)
      · simp [h4, h5]
      · rw [if_neg h4, if_neg h5, if_pos (by omega), if_pos (by omega), if_pos (by omega), ih k (i + 1) _ _ (by omega) (by omega) (by simp; omega)]
        by_cases h6 : (cutS (s.extract n.toNat s.size) (sizes.drop (i + 1))).2 = 0
        · simp [h4, h5, h6]
        · simp [h4, h5, h6]

open Go.Proofs.Ytihhclgjjgakpaa.PWordParts in
theorem cut_f (s : ByteArray) (sizes : List Int) (hs : sizes.length ≤ 1000000) : word_Cut.f (sizes.length + 1) s sizes = some (cutS s sizes) := by
  unfold word_Cut.f
  have := cut_loop sizes hs sizes.length (sizes.length + 1) 0 s [] (by omega) (by omega) (by simp)
  simp only [List.drop_zero, List.nil_append] at this
  rw [show (0 : Int) = ((0 : Nat) : Int) from rfl, this]
  by_cases h : (cutS s sizes).2 = 0
  · rw [if_pos h, ← h]
  · rw [if_neg h, ← cutS_bad s sizes h]

/-- A row of whole numbers. -/
def Nums (k : IntKind) (w : World) (A : Option Addr) (l : List Int) : Prop := ∀ i s, l[i]? = some s → ∃ ad, A = some ad ∧ w.cell? (ad.add i) = some (.int k s)

theorem Nums.below {k : IntKind} {w w1 : World} {A : Option Addr} {l : List Int} (h : Nums k w A l) (hb : Below w.heap.size w w1) : Nums k w1 A l := by
  intro i s hi
  obtain ⟨ad, had, hc⟩ := h i s hi
  exact ⟨ad, had, pw_cell_below hb hc⟩

theorem reads_nums {k : IntKind} {w : World} {A : Option Addr} {l : List Int} (h : Nums k w A l) (hl : l.length ≤ 9223372036854775807) : ReadsOf (Value.int k) 0 w A l.length l := by
  refine ⟨rfl, hl, fun h0 => ?_⟩
  obtain ⟨ad, rfl, _⟩ := h 0 l[0] (List.getElem?_eq_getElem h0)
  refine ⟨ad, rfl, fun j hj => ?_⟩
  obtain ⟨ad', h1, h2⟩ := h j l[j] (List.getElem?_eq_getElem hj)
  obtain rfl := Option.some.inj h1
  rw [h2]
  simp [List.getD, List.getElem?_eq_getElem hj]

theorem own_nums {w : World} {base c : Nat} {A : Option Addr} {l : List Int} (h : w.ownsRow base 3 1 (.slice A l.length c) l.length (encs (Value.int .i64) l)) : l.length ≤ c ∧ Nums .i64 w A l := by
  refine ⟨own_le h, ?_⟩
  obtain ⟨A', c', he, hr⟩ := own_reads_of (d := (0 : Int)) h
  injection he with e1 e2 e3
  subst e1
  intro i s hi
  have hlt := (List.getElem?_eq_some_iff.1 hi).1
  obtain ⟨ad, h1, h2⟩ := hr.2.2 (by omega)
  refine ⟨ad, h1, ?_⟩
  rw [h2 i hlt]
  simp [List.getD, hi]

def CutPost (l : List ByteArray) (n : Nat) (x : Int) (w : World) (e : Ending) (w' : World) : Prop :=
  ∃ A' c', e = .returned (.tuple #[.slice A' n c', .int .i64 x]) ∧ n ≤ c' ∧ Txt w' A' l ∧ Below w.heap.size w w'

theorem cut_at (s : ByteArray) (A : Option Addr) (m c n : Nat) (sizes : List Int) (l : List ByteArray) (x : Int) (w : World) (hm : sizes.length = m) (hs : m ≤ 1000000) (hc : m ≤ c) (h : Nums .i64 w A sizes) (e : cutS s sizes = (l, x)) (hn : l.length = n) :
    Calls Try.prog 25 #[.string s, .slice A m c] w (CutPost l n x w) := by
  subst hm hn
  refine (PWordParts.word_Cut.calls (sizes.length + 1) s A c sizes l x w (Kd.C_of_reads (reads_nums h (by omega))) hc (by rw [cut_f s sizes hs, e])).mono ?_
  rintro e w' ⟨v, rfl, hR, hb⟩
  obtain ⟨A', c', rfl, h1, h2, _⟩ := own_txt (Kd.own_of_R hR)
  exact ⟨A', c', rfl, h1, h2, hb⟩

/-! What Cut says of sizes one behind the other -/
theorem cutS_shape (l : List Int) : ∀ s, (cutS s l).2 = 0 → ∃ p r, (cutS s l).1 = p ++ [r] ∧ p.length = l.length ∧ ∀ b, cutS s (l ++ b) = if (cutS r b).2 = 0 then (p ++ (cutS r b).1, 0) else ([], (cutS r b).2) := by
  induction l with
  | nil =>
    intro s _
    refine ⟨[], s, rfl, rfl, fun b => ?_⟩
    simp only [List.nil_append]
    split
    · next h => rw [← h]
    · next h => rw [← cutS_bad s b h]
  | cons n ns ih =>
    intro s h
    simp only [cutS] at h
    by_cases h1 : n < 0
    · simp [h1] at h
    · by_cases h2 : n > (s.size : Int)
      · simp [h1, h2] at h
      · by_cases h3 : (cutS (s.extract n.toNat s.size) ns).2 = 0
        · obtain ⟨p, r, h4, h5, h6⟩ := ih _ h3
          refine ⟨s.extract 0 n.toNat :: p, r, ?_, by simp [h5], fun b => ?_⟩
          · simp only [cutS]
            rw [if_neg h1, if_neg h2, if_pos h3, h4]
            rfl
          · simp only [List.cons_append, cutS]
            rw [if_neg h1, if_neg h2, h6 b]
            by_cases h7 : (cutS r b).2 = 0
            · simp [h7]
            · simp [h7]
        · rw [if_neg h1, if_neg h2, if_neg h3] at h
          exact absurd h h3

theorem cutS_first (l : List Int) : ∀ s b, (cutS s l).2 ≠ 0 → cutS s (l ++ b) = ([], (cutS s l).2) := by
  induction l with
  | nil => intro s b h; simp [cutS] at h
  | cons n ns ih =>
    intro s b h
    simp only [List.cons_append, cutS] at h ⊢
    by_cases h1 : n < 0
    · simp [h1]
    · by_cases h2 : n > (s.size : Int)
      · simp [h1, h2]
      · by_cases h3 : (cutS (s.extract n.toNat s.size) ns).2 = 0
        · rw [if_neg h1, if_neg h2, if_pos h3] at h
          exact absurd rfl h
        · simp [h1, h2, h3, ih _ b h3]

end Go.Proofs.Ytihhclgjjgakpaa.Inbox
