/- Push, All of the inbox, slices.Clone at texts: contracts. The condition: no more than 1,000,000 texts. -/
import Derived.Test.YtihhclgjjgakpaaMyConcat
import Derived.Test.YtihhclgjjgakpaaMyOrder
import Derived.Test.YtihhclgjjgakpaaPInboxTurnsx1
import Derived.Lib.SliceRun
namespace Go.Proofs.Ytihhclgjjgakpaa.Inbox
open Go.RowKit Go.Proofs.YtihhclgjjgakpaaW.PrintWords Go.Proofs.YtihhclgjjgakpaaW.PrintLast Go.Proofs.YtihhclgjjgakpaaW.PrintMore

theorem reads_txt {w : World} {A : Option Addr} {l : List ByteArray} (h : Txt w A l) (hl : l.length ≤ 9223372036854775807) : ReadsOf Value.string ByteArray.empty w A l.length l := by
  refine ⟨rfl, hl, fun h0 => ?_⟩
  obtain ⟨ad, rfl, _⟩ := h 0 l[0] (List.getElem?_eq_getElem h0)
  refine ⟨ad, rfl, fun j hj => ?_⟩
  obtain ⟨ad', h1, h2⟩ := h j l[j] (List.getElem?_eq_getElem hj)
  obtain rfl := Option.some.inj h1
  rw [h2]
  simp [List.getD, List.getElem?_eq_getElem hj]

/-- A row that the call owns reads as texts. -/
theorem own_txt' {w : World} {base c : Nat} {A : Option Addr} {l : List ByteArray} (h : w.ownsRow base 9 1 (.slice A l.length c) l.length (encs Value.string l)) :
    l.length ≤ c ∧ Txt w A l ∧ (A = none → c = 0) ∧ ∀ ad, A = some ad → base ≤ ad.block := by
  obtain ⟨A', c', he, h1, h2, h3, h4⟩ := own_txt h
  injection he with e1 e2 e3
  subst e1
  subst e3
  exact ⟨h1, h2, h3, h4⟩

def ClonePost (l : List ByteArray) (w : World) (e : Ending) (w' : World) : Prop :=
  ∃ A' c', e = .returned (.slice A' l.length c') ∧ l.length ≤ c' ∧ Txt w' A' l ∧ Below w.heap.size w w'

theorem clone_any (A : Option Addr) (c : Nat) (l : List ByteArray) (w : World) (hl : l.length ≤ 1000000) (ht : Txt w A l) :
    Calls Try.prog 39 #[.slice A l.length c] w (ClonePost l w) := by
  have R := Aside0.mk (reads_txt ht (by omega))
  have q22 : ∀ (w : World) (a : Option Addr) (n c n' c' : Nat), (binOp .eql 22 (.slice a n c) (.slice none n' c')).run Try.prog w = .ok (.bool a.isNone) w := fun w a n c n' c' => Lib.run_eql_slice_nil w _ _ a n c n' c' Try.underlying22
  cases A with
  | none =>
    have h0 : l = [] := by
      cases l with
      | nil => rfl
      | cons x l => obtain ⟨ad, h, _⟩ := ht 0 x rfl; simp at h
    subst h0
    clear ht
    go_enter Try.func39, Try.ntmps39
    go_wp2
    go_ret
    exact ⟨none, 0, rfl, Nat.le_refl _, fun i s hi => by simp at hi, Below.refl _ _⟩
  | some ad =>
    clear ht
    have HO : Aside0 ((w.alloc (.cells #[] 9)).ownsRow w.heap.size 9 1 (.slice (some ⟨w.heap.size, 0, none⟩) 0 0) ([] : List ByteArray).length (encs Value.string ([] : List ByteArray))) :=
      Aside0.mk ⟨rfl, .inr ⟨w.heap.size, 0, _, rfl, Nat.le_refl _, heap_alloc_new w _, Nat.le_refl _, Nat.zero_le _, rfl, rfl⟩⟩
    have HB : Aside0 (Below w.heap.size w (w.alloc (.cells #[] 9))) := Aside0.mk ((Below.refl _ _).alloc (Nat.le_refl _) _)
    go_enter Try.func39, Try.ntmps39
    go_wp2_with (at_builtin; refine print_append_row_of Value.string ByteArray.empty w.heap.size rfl (.tmp 5) (.tmp 6) 22 9 (.string ⟨#[]⟩) 16 rfl Try.underlying22 info9' rfl (by decide) (fun _ => rfl) (.slice (some ⟨w.heap.size, 0, none⟩) 0 0) [] l (some ad) l.length c rfl rfl HO.out (R.out.below HB.out) HB.out (by simp) (by simp; omega) ?grow)
    case grow =>
      intro v1 w4 hown4 hb4 _ _
      obtain ⟨A4, c4, rfl⟩ := own_slice hown4
      have HO4 := Aside0.mk hown4
      have HB4 := Aside0.mk hb4
      clear hown4 hb4
      go_wp2
      go_ret
      obtain ⟨h1, h2, h3, h4⟩ := own_txt' (l := l) (by simpa using HO4.out)
      exact ⟨A4, c4, by simp, h1, h2, HB4.out⟩

def PushPost (room d : Int) (l : List ByteArray) (w : World) (e : Ending) (w' : World) : Prop :=
  ∃ A' c', e = .returned (.agg #[.int .i64 room, .slice A' l.length c', .int .u64 d]) ∧ l.length ≤ c' ∧ (A' = none → c' = 0) ∧ Txt w' A' l ∧ Below w.heap.size w w' ∧ ∀ ad, A' = some ad → w.heap.size ≤ ad.block

set_option maxHeartbeats 1000000 in
theorem push_any (room d : Int) (A : Option Addr) (c : Nat) (x : ByteArray) (l : List ByteArray) (w : World) (hl : l.length ≤ 1000000) (ht : Txt w A l) :
    Calls Try.prog 29 #[.agg #[.int .i64 room, .slice A l.length c, .int .u64 d], .string x] w (PushPost room d (x :: l) w) := by
  have hu26 := Try.underlying26
  have R := Aside0.mk (reads_txt ht (by omega))
  clear ht
  go_enter Try.func29, Try.ntmps29
  go_wp2_with fail
  have HB0 := Aside0.mk (((((Below.refl w.heap.size w).alloc (Nat.le_refl _) (Obj.cells #[.int .i64 room, .slice A l.length c, .int .u64 d] 26)).alloc (by simp) (Obj.cells #[.int .i64 0, .slice none 0 0, .int .u64 0] 26)).alloc (by simp; omega) (Obj.cells #[.string x] 9)).alloc (by simp; omega) (Obj.cells #[.slice (some ⟨w.heap.size + 1 + 1, 0, none⟩) 1 1, .slice A l.length c] 22))
  refine (concat_two_strs (w.heap.size + 1 + 1 + 1) (some ⟨w.heap.size + 1 + 1, 0, none⟩) A 1 c [x] l _ (by simp) hl (by go_simp) (by go_simp) ?_ (R.out.below HB0.out)).mono ?_
  · refine ⟨rfl, by simp, fun _ => ⟨_, rfl, fun j hj => ?_⟩⟩
    obtain rfl : j = 0 := by simp at hj; exact hj
    go_simp
  rintro e w2 ⟨A2, c2, rfl, hown, hb2⟩
  obtain ⟨h1, h2, h3, h4⟩ := own_txt' hown
  have hbx := (boxed_new (w := w) (R := room) (d := d) (A := A) (n := l.length) (c := c))
  have HB2 := Aside0.mk hb2
  have hz2 := hb2.size
  simp at hz2
  have H1 := Aside0.mk h1
  have H2 := Aside0.mk h2
  have H3 := Aside0.mk h3
  have H4 := Aside0.mk h4
  simp only [List.length_append, List.length_cons, List.length_nil]
  clear h1 h2 h3 h4 hown
  obtain ⟨q0, q1, q2, f0, f1, f2⟩ := cells3 hb2 w.heap.size (u0 := .int .i64 room) (u1 := .slice A l.length c) (u2 := .int .u64 d) (by go_simp) (by go_simp) (by go_simp) (by go_simp) (by go_simp) (by go_simp)
  obtain ⟨p0, p1, p2, g0, g1, g2⟩ := cells3 hb2 (w.heap.size + 1) (u0 := .int .i64 0) (u1 := .slice none 0 0) (u2 := .int .u64 0) (by go_simp) (by go_simp) (by go_simp) (by go_simp) (by go_simp) (by go_simp)
  clear hb2 hbx
  go_wp2
  refine bodyPost_ret (v := .agg #[.int .i64 room, .slice A2 (l.length + 1) c2, .int .u64 d]) (by simp [results, Try.results29, go_sem, p0, p1, p2, Nat.add_comm]) rfl ?_
  have hge : ∀ ad, A2 = some ad → w.heap.size + 4 ≤ ad.block := fun ad h => by have := H4.out ad h; simp at this; omega
  have h1 := H1.out
  simp at h1
  refine ⟨A2, c2, rfl, by simp; omega, H3.out, ?_, ?_, fun ad h => by have := hge ad h; omega⟩
  · exact (((H2.out.set (fun ad h => by have := hge ad h; simp; omega) _).set (fun ad h => by have := hge ad h; simp; omega) _).set (fun ad h => by have := hge ad h; simp; omega) _).set (fun ad h => by have := hge ad h; simp; omega) _
  · refine Below.setCell (Below.setCell (Below.setCell (Below.setCell (HB0.out.trans (HB2.out.mono (by simp; omega))) ?_ _) ?_ _) ?_ _) ?_ _
    all_goals simp

theorem all_any (room d : Int) (A : Option Addr) (n c : Nat) (l : List ByteArray) (w : World) (hn : l.length = n) (hl : l.length ≤ 1000000) (ht : Txt w A l) :
    Calls Try.prog 32 #[.agg #[.int .i64 room, .slice A n c, .int .u64 d]] w (ClonePost l w) := by
  subst hn
  have hu26 := Try.underlying26
  have HB := Aside0.mk ((Below.refl w.heap.size w).alloc (Nat.le_refl _) (Obj.cells #[.int .i64 room, .slice A l.length c, .int .u64 d] 26))
  have HT := Aside0.mk (ht.below HB.out)
  clear ht
  go_enter Try.func32, Try.ntmps32
  go_wp2_with fail
  refine (clone_any A c l _ hl HT.out).mono ?_
  rintro e w2 ⟨A2, c2, rfl, h1, h2, h3⟩
  have H1 := Aside0.mk h1
  have H2 := Aside0.mk h2
  have H3 := Aside0.mk h3
  clear h1 h2 h3
  go_wp2
  go_ret
  exact ⟨A2, c2, rfl, H1.out, H2.out, HB.out.trans (H3.out.mono (by simp))⟩

/-- An inbox in the box g: room R, so many dropped, these texts wait. -/
def Has (w : World) (g : Nat) (R d : Nat) (q : List ByteArray) : Prop :=
  ∃ A c, Boxed w g R (d : Int) A q.length c ∧ Txt w A q ∧ q.length ≤ c ∧ (A = none → c = 0) ∧ ∀ ad, A = some ad → g < ad.block

theorem Has.below {w w1 : World} {g R d : Nat} {q : List ByteArray} (h : Has w g R d q) (hb : Below w.heap.size w w1) : Has w1 g R d q := by
  obtain ⟨A, c, h1, h2, h3⟩ := h
  exact ⟨A, c, h1.below hb, h2.below hb, h3⟩

theorem Has.lt {w : World} {g R d : Nat} {q : List ByteArray} (h : Has w g R d q) : g < w.heap.size := by
  obtain ⟨A, c, h1, _⟩ := h
  exact h1.lt

theorem has_new (w : World) (R : Nat) : Has (w.alloc (.cells #[.int .i64 (R : Int), .slice none 0 0, .int .u64 0] 26)) w.heap.size R 0 [] :=
  ⟨none, 0, boxed_new, fun i s hi => by simp at hi, Nat.le_refl _, fun _ => rfl, by simp⟩

theorem has_stored {w : World} {g R d d' c n c3 : Nat} {A A3 : Option Addr} {q : List ByteArray} {R0 : Nat} (hbx : Boxed w g R0 (d : Int) A n c) (ht : Txt w A3 q) (hc : q.length ≤ c3) (hA : A3 = none → c3 = 0) (hg : ∀ ad, A3 = some ad → g < ad.block) :
    Has (((w.setCell ⟨g, 0, none⟩ (.int .i64 (R : Int))).setCell ⟨g, 1, none⟩ (.slice A3 q.length c3)).setCell ⟨g, 2, none⟩ (.int .u64 (d' : Int))) g R d' q := by
  refine ⟨A3, c3, boxed_set hbx, ?_, hc, hA, hg⟩
  exact ((ht.set (fun ad h => by have := hg ad h; simp; omega) _).set (fun ad h => by have := hg ad h; simp; omega) _).set (fun ad h => by have := hg ad h; simp; omega) _

/-! ### slices.Equal at texts -/
theorem cons_same {a b : ByteArray} (us vs : List ByteArray) (h : a = b) : decide (a :: us = b :: vs) = decide (us = vs) := by subst h; simp
theorem cons_other {a b : ByteArray} (us vs : List ByteArray) (h : ¬ a = b) : decide (a :: us = b :: vs) = false := by simp [h]
open Go.Proofs.Ytihhclgjjgakpaa.PInboxTurns in
theorem equal_loop (xs ys : List ByteArray) (hl : xs.length = ys.length) (hs : xs.length ≤ 1000000) (r : Nat) : ∀ (k i : Nat), i + r = xs.length → r < k →
    slices_Equal_string_string.l0 k xs ys (xs.length : Int) (i : Int) = some (decide (xs.drop i = ys.drop i)) := by
  induction r with
  | zero =>
    intro k i h1 h2
    obtain ⟨k, rfl⟩ : ∃ m, k = m + 1 := ⟨k - 1, by omega⟩
    simp only [slices_Equal_string_string.l0]
    rw [if_neg (by omega), List.drop_eq_nil_of_le (by omega), List.drop_eq_nil_of_le (by omega)]
    rfl
  | succ r ih =>
    intro k i h1 h2
    obtain ⟨k, rfl⟩ : ∃ m, k = m + 1 := ⟨k - 1, by omega⟩
    simp only [slices_Equal_string_string.l0]
    rw [if_pos (by omega), if_pos (by omega), if_pos (by omega), if_pos (by omega)]
    have hx : xs.drop i = xs[i]'(by omega) :: xs.drop (i + 1) := List.drop_eq_getElem_cons (by omega)
    have hy : ys.drop i = ys[i]'(by omega) :: ys.drop (i + 1) := List.drop_eq_getElem_cons (by omega)
    have e1 : rdOf ByteArray.empty xs (i : Int) = xs[i]'(by omega) := by simp [rdOf, List.getD, List.getElem?_eq_getElem (show i < xs.length by omega)]
    have e2 : rdOf ByteArray.empty ys (i : Int) = ys[i]'(by omega) := by simp [rdOf, List.getD, List.getElem?_eq_getElem (show i < ys.length by omega)]
    rw [e1, e2, hx, hy]
    have hw : wrap64 ((i : Int) + 1) = ((i + 1 : Nat) : Int) := by unfold wrap64; omega
    by_cases he : xs[i]'(by omega) = ys[i]'(by omega)
    · rw [if_pos (by rw [he]), hw, ih k (i + 1) (by omega) (by omega)]
      rw [cons_same _ _ he]
    · rw [if_neg]
      · rw [cons_other _ _ he]
      · intro h
        apply he
        rw [ByteArray.toList_eq, ByteArray.toList_eq] at h
        exact ByteArray.ext (Array.toList_inj.1 h)

open Go.Proofs.Ytihhclgjjgakpaa.PInboxTurns in
theorem equal_f (xs ys : List ByteArray) (hs : xs.length ≤ 1000000) : slices_Equal_string_string.f (xs.length + 1) xs ys = some (decide (xs = ys)) := by
  unfold slices_Equal_string_string.f
  by_cases h : xs.length = ys.length
  · rw [if_pos (by omega)]
    have := equal_loop xs ys h hs xs.length (xs.length + 1) 0 (by omega) (by omega)
    simpa using this
  · rw [if_neg (by omega)]
    have : xs ≠ ys := fun e => h (by rw [e])
    simp [this]

theorem equal_any (A1 A2 : Option Addr) (n1 n2 c1 c2 : Nat) (l1 l2 : List ByteArray) (w : World) (e1 : l1.length = n1) (e2 : l2.length = n2) (h1 : l1.length ≤ 1000000) (h2 : l2.length ≤ 1000000) (hc1 : l1.length ≤ c1) (hc2 : l2.length ≤ c2) (t1 : Txt w A1 l1) (t2 : Txt w A2 l2) :
    Calls Try.prog 27 #[.slice A1 n1 c1, .slice A2 n2 c2] w fun e w' => e = .returned (.bool (decide (l1 = l2))) ∧ Drawn0 w w' := by
  subst e1 e2
  exact PInboxTurns.slices_Equal_string_string.calls (l1.length + 1) A1 c1 l1 A2 c2 l2 _ w (Kd.C_of_reads (reads_txt t1 (by omega))) hc1 (Kd.C_of_reads (reads_txt t2 (by omega))) hc2 (equal_f l1 l2 h1)
end Go.Proofs.Ytihhclgjjgakpaa.Inbox
