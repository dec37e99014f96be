/- InboxTurns: no inbox, too many turns; the walk. No conditions but the reach of the argument. -/
import Derived.Test.YtihhclgjjgakpaaMyTurns
namespace Go.Proofs.Ytihhclgjjgakpaa.Inbox
open Go.RowKit Go.Proofs.YtihhclgjjgakpaaW.PrintWords Go.Proofs.YtihhclgjjgakpaaW.PrintLast Go.Proofs.YtihhclgjjgakpaaW.PrintMore

set_option maxRecDepth 30000 in
set_option maxHeartbeats 1000000 in
theorem turns_bad (r : Int) (h : r < 1 ∨ 64 < r) (A : Option Addr) (n c : Nat) (w : World) :
    Calls Try.prog 7 #[.int .i64 r, .slice A n c] w fun e w' => e = .returned (.bool true) ∧ Below w.heap.size w w' := by
  have hu26 := Try.underlying26
  have H := Aside0.mk h
  rcases h with hr | hr
  · go_enter Try.func7, Try.ntmps7
    go_wp2_with (first | (go_at_call 11; refine (awake_any _).mono ?_; rintro e w1 ⟨rfl, hb1⟩; have HB1 := Aside0.mk hb1; clear hb1) | (go_at_call 12; refine (new_bad _ _ H.out).mono ?_; rintro e w2 ⟨rfl, hb2⟩; have HB2 := Aside0.mk hb2; have hz2 := hb2.size; clear hb2) | (go_at_call 15; refine (len_any _ _ _ _ _ _).mono ?_; rintro e w3 ⟨rfl, hb3⟩; have HB3 := Aside0.mk hb3; have hz3 := hb3.size; clear hb3))
    go_ret
    exact ⟨rfl, ((HB1.out.trans (HB2.out.mono HB1.out.size)).alloc (Nat.le_trans HB1.out.size HB2.out.size) _).trans (HB3.out.mono (Nat.le_trans HB1.out.size (Nat.le_trans HB2.out.size (by simp))))⟩
  · have hr' : ¬ r < 1 := by omega
    go_enter Try.func7, Try.ntmps7
    go_wp2_with (first | (go_at_call 11; refine (awake_any _).mono ?_; rintro e w1 ⟨rfl, hb1⟩; have HB1 := Aside0.mk hb1; clear hb1) | (go_at_call 12; refine (new_bad _ _ H.out).mono ?_; rintro e w2 ⟨rfl, hb2⟩; have HB2 := Aside0.mk hb2; have hz2 := hb2.size; clear hb2) | (go_at_call 15; refine (len_any _ _ _ _ _ _).mono ?_; rintro e w3 ⟨rfl, hb3⟩; have HB3 := Aside0.mk hb3; have hz3 := hb3.size; clear hb3))
    go_ret
    exact ⟨rfl, ((HB1.out.trans (HB2.out.mono HB1.out.size)).alloc (Nat.le_trans HB1.out.size HB2.out.size) _).trans (HB3.out.mono (Nat.le_trans HB1.out.size (Nat.le_trans HB2.out.size (by simp))))⟩

set_option maxRecDepth 30000 in
set_option maxHeartbeats 1000000 in
theorem turns_long (r : Int) (h1 : 1 ≤ r) (h2 : r ≤ 64) (A : Option Addr) (n c : Nat) (w : World) (hn : 120 < n) (hm : n ≤ 9223372036854775807) :
    Calls Try.prog 7 #[.int .i64 r, .slice A n c] w fun e w' => e = .returned (.bool true) ∧ Below w.heap.size w w' := by
  have hu26 := Try.underlying26
  go_enter Try.func7, Try.ntmps7
  go_wp2_with (first | (go_at_call 11; refine (awake_any _).mono ?_; rintro e w1 ⟨rfl, hb1⟩; have HB1 := Aside0.mk hb1; clear hb1) | (go_at_call 12; refine (new_good _ _ (by omega) (by omega)).mono ?_; rintro e w2 ⟨rfl, hb2⟩; have HB2 := Aside0.mk hb2; have hz2 := hb2.size; clear hb2))
  go_ret
  exact ⟨rfl, (HB1.out.trans (HB2.out.mono HB1.out.size)).alloc (Nat.le_trans HB1.out.size HB2.out.size) _⟩
theorem turns_walk (r : Int) (A : Option Addr) (l : List (Int × ByteArray)) (c : Nat) (w : World) (_ : (Lit.int .i64 r).wf = true) (ht : Acts w A l) (hm : l.length ≤ maxLen) (_ : l.length ≤ c) :
    Calls Try.prog 7 #[.int .i64 r, .slice A l.length c] w fun e w' => e = .returned (.bool true) ∧ Below w.heap.size w w' := by
  unfold maxLen at hm
  by_cases hr : r < 1 ∨ 64 < r
  · exact turns_bad r hr A l.length c w
  · by_cases hl : l.length ≤ 120
    · exact turns_short r (by omega) (by omega) A l c w hl ht
    · exact turns_long r (by omega) (by omega) A l.length c w (by omega) (by omega)
end Go.Proofs.Ytihhclgjjgakpaa.Inbox
