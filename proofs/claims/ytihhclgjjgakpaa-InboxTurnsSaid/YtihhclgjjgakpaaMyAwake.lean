/- The example of the inbox's chapter is met, in whatever memory. No conditions. -/
import Derived.Test.YtihhclgjjgakpaaMyInbox
namespace Go.Proofs.Ytihhclgjjgakpaa.Inbox
open Go.RowKit Go.Proofs.YtihhclgjjgakpaaW.PrintWords Go.Proofs.YtihhclgjjgakpaaW.PrintLast Go.Proofs.YtihhclgjjgakpaaW.PrintMore

/-- Three cells of one block in a later world. -/
theorem cells3 {W w1 : World} (hb : Below W.heap.size W w1) (b : Nat) {u0 u1 u2 : Value} (h0 : W.cell? ⟨b, 0, none⟩ = some u0) (h1 : W.cell? ⟨b, 1, none⟩ = some u1) (h2 : W.cell? ⟨b, 2, none⟩ = some u2)
    (f0 : W.frozen? ⟨b, 0, none⟩ = false) (f1 : W.frozen? ⟨b, 1, none⟩ = false) (f2 : W.frozen? ⟨b, 2, none⟩ = false) :
    w1.cell? ⟨b, 0, none⟩ = some u0 ∧ w1.cell? ⟨b, 1, none⟩ = some u1 ∧ w1.cell? ⟨b, 2, none⟩ = some u2 ∧ w1.frozen? ⟨b, 0, none⟩ = false ∧ w1.frozen? ⟨b, 1, none⟩ = false ∧ w1.frozen? ⟨b, 2, none⟩ = false := by
  have hlt : b < W.heap.size := World.block_lt_of_cell? W _ h0
  exact ⟨(hb.cell hlt).trans h0, (hb.cell hlt).trans h1, (hb.cell hlt).trans h2, (hb.frozen hlt).trans f0, (hb.frozen hlt).trans f1, (hb.frozen hlt).trans f2⟩

set_option maxHeartbeats 1000000 in
theorem awake_any (w : World) : Calls Try.prog 11 #[] w fun e w' => e = .returned (.bool true) ∧ Below w.heap.size w w' := by
  have hu26 := Try.underlying26
  go_enter Try.func11, Try.ntmps11
  go_wp2_with (first | (go_at_call 12; refine (new_good 1 _ (by omega) (by omega)).mono ?_; rintro e w1 ⟨rfl, hb1⟩))
  have HB1 := Aside0.mk (hb1.alloc hb1.size (Obj.cells #[.int .i64 1, .slice none 0 0, .int .u64 0] 26))
  have hz1 := hb1.size
  clear hb1
  refine (put_fits 1 0 none [] 0 ⟨#[97]⟩ _ (by decide) (by decide) (by decide) (fun _ => rfl) (fun i s hi => by simp at hi)).mono ?_
  rintro e w2 ⟨A2, c2, rfl, hc2, ha2, ht2, hb2, _⟩
  obtain ⟨q0, q1, q2, f0, f1, f2⟩ := cells3 hb2 w1.heap.size (u0 := .int .i64 1) (u1 := .slice none 0 0) (u2 := .int .u64 0) (by go_simp) (by go_simp) (by go_simp) (by go_simp) (by go_simp) (by go_simp)
  have hz2 := hb2.size
  have HB2 := Aside0.mk (HB1.out.trans (hb2.mono (by simp; omega)))
  simp only [List.nil_append, List.length_cons, List.length_nil, Nat.zero_add]
  simp at hz2
  clear hb2 hc2 ha2 ht2
  go_wp2_with fail
  refine (put_full 1 0 A2 1 c2 ⟨#[98]⟩ _ (by decide) (by decide)).mono ?_
  rintro e w3 ⟨rfl, hb3⟩
  have hz3 := hb3.size
  have HB3 := Aside0.mk ((((HB2.out.setCell (by simpa using hz1) _).setCell (by simpa using hz1) _).setCell (by simpa using hz1) _).trans (hb3.mono (by simp; omega)))
  simp at hz3
  clear hb3
  rw [show IntKind.u64.wrap (0 + 1) = 1 from by decide]
  go_wp2_with fail
  refine (dropped_any 1 1 A2 1 c2 _).mono ?_
  rintro e w4 ⟨rfl, hb4⟩
  obtain ⟨r0, r1, r2, _, _, _⟩ := cells3 hb4 w3.heap.size (u0 := .int .i64 1) (u1 := .slice A2 1 c2) (u2 := .int .u64 1) (by go_simp) (by go_simp) (by go_simp) (by go_simp) (by go_simp) (by go_simp)
  have HB4 := Aside0.mk ((HB3.out.alloc (by omega) _).trans (hb4.mono (by simp; omega)))
  have hz4 := hb4.size
  simp at hz4
  clear hb4
  go_wp2_with fail
  refine (len_any 1 1 A2 1 c2 _).mono ?_
  rintro e w5 ⟨rfl, hb5⟩
  have HB5 := Aside0.mk (HB4.out.trans (hb5.mono (by omega)))
  clear hb5
  go_wp2_with fail
  go_ret
  exact ⟨rfl, HB5.out⟩
end Go.Proofs.Ytihhclgjjgakpaa.Inbox
