/- InboxTurns: the walk of the law. No conditions but the reach of the argument. -/
import Derived.Test.YtihhclgjjgakpaaMyPushed
import Derived.Deep.LoopGhost
import Derived.Deep.DeepCutAuto
import Derived.Deep.CutBlock
namespace Go.Proofs.Ytihhclgjjgakpaa.Inbox
open Go.RowKit Go.Proofs.YtihhclgjjgakpaaW.PrintWords Go.Proofs.YtihhclgjjgakpaaW.PrintLast Go.Proofs.YtihhclgjjgakpaaW.PrintMore

/-- The document's Push. -/
def RPost (l : List ByteArray) (n : Nat) (w : World) (e : Ending) (w' : World) : Prop :=
  ∃ A' c', e = .returned (.slice A' n c') ∧ n ≤ c' ∧ Txt w' A' l ∧ Below w.heap.size w w' ∧ ∀ ad, A' = some ad → w.heap.size ≤ ad.block

theorem rpush_any (A : Option Addr) (n c : Nat) (x : ByteArray) (l : List ByteArray) (w : World) (hn : l.length = n) (hl : n ≤ 1000000) (ht : Txt w A l) :
    Calls Try.prog 30 #[.slice A n c, .string x] w (RPost (x :: l) (n + 1) w) := by
  subst hn
  have HB := Aside0.mk ((Below.refl w.heap.size w).alloc (Nat.le_refl _) (Obj.cells #[.string x] 9))
  have R := Aside0.mk (reads_txt (ht.below HB.out) (by omega))
  clear ht
  have HO : Aside0 ((w.alloc (.cells #[.string x] 9)).ownsRow w.heap.size 9 1 (.slice (some ⟨w.heap.size, 0, none⟩) 1 1) [x].length (encs Value.string [x])) :=
    Aside0.mk (own_lit_of (enc := Value.string) w w.heap.size 9 [x] (Nat.le_refl _) (by simp))
  go_enter Try.func30, Try.ntmps30
  go_wp2_with (at_builtin; refine print_append_row_of Value.string ByteArray.empty w.heap.size rfl (.tmp 8) (.tmp 9) 22 9 (.string ⟨#[]⟩) 16 rfl Try.underlying22 info9' rfl (by decide) (fun _ => rfl) (.slice (some ⟨w.heap.size, 0, none⟩) 1 1) [x] l A l.length c rfl rfl HO.out R.out HB.out (by simp) (by simp; omega) ?grow)
  case grow =>
    intro v1 w4 hown4 hb4 _ _
    obtain ⟨A4, c4, rfl⟩ := own_slice hown4
    have HO4 := Aside0.mk hown4
    have HB4 := Aside0.mk hb4
    clear hown4 hb4
    go_wp2
    go_ret
    obtain ⟨h1, h2, h3, h4⟩ := own_txt' HO4.out
    simp only [List.length_cons] at h1
    exact ⟨A4, c4, by simp [Nat.add_comm], by omega, h2, HB4.out, h4⟩

theorem rput_full (A : Option Addr) (n c R : Nat) (x : ByteArray) (w : World) (h : R ≤ n) (_ : n ≤ 1000000) :
    Calls Try.prog 31 #[.slice A n c, .int .i64 (R : Int), .string x] w fun e w' => e = .returned (.tuple #[.slice A n c, .bool false]) ∧ w = w' := by
  go_enter Try.func31, Try.ntmps31
  go_wp2
  go_ret2
  exact ⟨rfl, rfl⟩

def RPutPost (l : List ByteArray) (n : Nat) (w : World) (e : Ending) (w' : World) : Prop :=
  ∃ A' c', e = .returned (.tuple #[.slice A' n c', .bool true]) ∧ n ≤ c' ∧ Txt w' A' l ∧ Below w.heap.size w w' ∧ ∀ ad, A' = some ad → w.heap.size ≤ ad.block

theorem rput_fits (A : Option Addr) (n c R : Nat) (x : ByteArray) (l : List ByteArray) (w : World) (hl : l.length = n) (h : n < R) (hn : n ≤ 1000000) (ht : Txt w A l) :
    Calls Try.prog 31 #[.slice A n c, .int .i64 (R : Int), .string x] w (RPutPost (l ++ [x]) (n + 1) w) := by
  subst hl
  have R := Aside0.mk (reads_txt ht (by omega))
  clear ht
  go_enter Try.func31, Try.ntmps31
  go_wp2_with (at_builtin; refine print_append_row_of Value.string ByteArray.empty w.heap.size rfl (.tmp 14) (.tmp 15) 22 9 (.string ⟨#[]⟩) 16 rfl Try.underlying22 info9' rfl (by decide) (fun _ => rfl) (.slice none 0 0) [] l A l.length c rfl rfl (own_nil _ _ _ _) R.out (Below.refl _ _) (Nat.le_refl _) (by simp; omega) ?grow)
  case grow =>
    intro v1 w4 hown4 hb4 _ _
    obtain ⟨A4, c4, rfl⟩ := own_slice hown4
    have HO4 : Aside0 (w4.ownsRow w.heap.size 9 1 (.slice A4 l.length c4) (encs Value.string l).length (encs Value.string l)) := Aside0.mk (by simpa [encs_length] using hown4)
    have HB4 := Aside0.mk hb4
    have hz4 := hb4.size
    clear hown4 hb4
    go_wp2_with (at_builtin; refine print_append w.heap.size rfl (.tmp 17) (.tmp 19) 22 9 (.string ⟨#[]⟩) 16 rfl Try.underlying22 info9' rfl (by decide) (.slice A4 l.length c4) (encs Value.string l) (.string x) rfl ?hx rfl HO4.out HB4.out hz4 (by rw [encs_length]; omega) ?grow2)
    case hx => go_simp
    case grow2 =>
      intro v1 w5 hown5 hb5 _ _
      obtain ⟨A5, c5, rfl⟩ := own_slice hown5
      have HO5 := Aside0.mk hown5
      have HB5 := Aside0.mk hb5
      clear hown5 hb5
      go_wp2
      go_ret2
      have e5 : encs Value.string l ++ [Value.string x] = encs Value.string (l ++ [x]) := by simp [encs]
      have := HO5.out
      rw [e5, encs_length] at this
      obtain ⟨h1, h2, h3, h4⟩ := own_txt' (l := l ++ [x]) (by simpa using this)
      simp only [List.length_append, List.length_cons, List.length_nil] at h1
      exact ⟨A5, c5, by simp [encs_length], by omega, h2, HB5.out, h4⟩

/-! ### A box is written, and something lies elsewhere -/
theorem Boxed.aside {w : World} {g b : Nat} {R d : Int} {A : Option Addr} {n c : Nat} (h : Boxed w b R d A n c) (hne : b ≠ g) (v0 v1 v2 : Value) :
    Boxed (((w.setCell ⟨g, 0, none⟩ v0).setCell ⟨g, 1, none⟩ v1).setCell ⟨g, 2, none⟩ v2) b R d A n c := by
  obtain ⟨q0, q1, q2, f0, f1, f2⟩ := h
  have m : ∀ i j : Nat, (⟨b, i, none⟩ : Addr) ≠ ⟨g, j, none⟩ := fun i j h => hne (by injection h)
  exact ⟨by go_simp, by go_simp, by go_simp, by go_simp, by go_simp, by go_simp⟩

theorem Txt.aside {w : World} {g : Nat} {A : Option Addr} {l : List ByteArray} (h : Txt w A l) (hA : ∀ ad, A = some ad → g < ad.block) (v0 v1 v2 : Value) :
    Txt (((w.setCell ⟨g, 0, none⟩ v0).setCell ⟨g, 1, none⟩ v1).setCell ⟨g, 2, none⟩ v2) A l :=
  ((h.set (fun ad h => Nat.ne_of_gt (hA ad h)) _).set (fun ad h => Nat.ne_of_gt (hA ad h)) _).set (fun ad h => Nat.ne_of_gt (hA ad h)) _

theorem below_aside {b g : Nat} {w w1 : World} (h : Below b w w1) (hg : b ≤ g) (v0 v1 v2 : Value) :
    Below b w (((w1.setCell ⟨g, 0, none⟩ v0).setCell ⟨g, 1, none⟩ v1).setCell ⟨g, 2, none⟩ v2) :=
  Below.setCell (Below.setCell (Below.setCell h hg _) hg _) hg _
end Go.Proofs.Ytihhclgjjgakpaa.Inbox
