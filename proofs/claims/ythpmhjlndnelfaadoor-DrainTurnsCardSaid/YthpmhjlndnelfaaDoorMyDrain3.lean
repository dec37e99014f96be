/- The example of law25; a row of turns of a drain. The condition: the tables are laid. -/
import Derived.Test.YthpmhjlndnelfaaDoorMyDrain2
import Derived.Test.YthpmhjlndnelfaaDoorMyAwake
namespace Go.Proofs.YthpmhjlndnelfaaDoor.Real
open Go.RowKit Go.Lib Go.Proofs.YthpmhjlndnelfaaDoorW.PrintWords PDrainTurns

theorem over_at (b o : Bool) (d c f : Int) (w : World) :
    Calls Tryd.prog 31 #[dv b o d c f] w fun e w' => e = .returned (.bool o) ∧ Below w.heap.size w w' := drain_Drain_Over.calls b o d c f o w rfl
theorem on_at (b o : Bool) (d c f : Int) (r : Bool) (hr : (b && !o) = r) (w : World) :
    Calls Tryd.prog 47 #[dv b o d c f] w fun e w' => e = .returned (.bool r) ∧ Below w.heap.size w w' :=
  (on_exact b o d c f r w hr).mono (by rintro e w' ⟨rfl, rfl⟩; exact ⟨rfl, below_alloc (Below.refl _ _) _⟩)

/-- A box, by its number. -/
abbrev Bx (w : World) (g : Nat) (cs : Array Value) (t : TypeId) : Prop := w.heap[g]? = some (.cells cs t (0, 0))

set_option maxRecDepth 100000 in
set_option maxHeartbeats 2000000 in
theorem awake25 (w : World) (ht : Tabs w) : Calls Tryd.prog 28 #[] w fun e w' => e = .returned (.bool true) ∧ Below w.heap.size w w' := by
  have HT := Aside0.mk ht
  clear ht
  have HO1 := Aside0.mk (on_at true false 15 0 0 true rfl)
  have HO2 := Aside0.mk (on_at true true 15 0 2 false rfl)
  go_enter Tryd.func28, Tryd.ntmps28
  go_wp2_with (first
    | (go_at_call 29; refine (begin_off false 0 0 0 5 10 15 rfl _).mono ?_; rintro e w1 ⟨rfl, hb⟩; have HB1 := Aside0.mk hb; clear hb)
    | (go_at_call 30; have HB2 := Aside0.mk (below_alloc HB1.out (.cells (dc true false 15 0 0) 41)); have B2 := Aside0.mk (blk_new w1 (.cells (dc true false 15 0 0) 41)); refine (tick_force 15 0 0 15 2 2 (by omega) (by omega) rfl _).mono ?_; rintro e w2 ⟨rfl, hb⟩; have HB3 := Aside0.mk (HB2.out.trans (hb.mono HB2.out.size)); have B3 := Aside0.mk (blk_below B2.out hb); clear hb; have c3 := blk_cell B3.out; have f3 := blk_frozen B3.out; have z3 := blk_lt B3.out)
    | (go_at_call 61; have HB4 := Aside0.mk (below_alloc HB3.out (.cells (dc true true 15 0 2) 41)); have B4 := Aside0.mk (blk_alloc B3.out (.cells (dc true true 15 0 2) 41)); have X4 := Aside0.mk (blk_new w2 (.cells (dc true true 15 0 2) 41)); refine (awake61 _ (HT.out.below HB4.out)).mono ?_; rintro e w4 ⟨rfl, hb⟩; have HB5 := Aside0.mk (HB4.out.trans (hb.mono HB4.out.size)); have B5 := Aside0.mk (blk_below B4.out hb); have X5 := Aside0.mk (blk_below X4.out hb); clear hb; have c5 := blk_cell B5.out; have f5 := blk_frozen B5.out; have z5 := blk_lt B5.out; have d5 := blk_cell X5.out; have g5 := blk_frozen X5.out; have y5 := blk_lt X5.out)
    | ((go_at_call 47; with_reducible refine (HO1.out _).mono ?_); rintro e w5 ⟨rfl, hb⟩; have HB6 := Aside0.mk (HB5.out.trans (hb.mono HB5.out.size)); have B6 := Aside0.mk (blk_below B5.out hb); have X6 := Aside0.mk (blk_below X5.out hb); clear hb; have c6 := blk_cell B6.out; have f6 := blk_frozen B6.out; have z6 := blk_lt B6.out; have d6 := blk_cell X6.out; have g6 := blk_frozen X6.out; have y6 := blk_lt X6.out)
    | (go_at_call 31; refine (over_at _ _ _ _ _ _).mono ?_; rintro e w6 ⟨rfl, hb⟩; have HB7 := Aside0.mk (HB6.out.trans (hb.mono HB6.out.size)); have X7 := Aside0.mk (blk_below X6.out hb); clear hb; have d7 := blk_cell X7.out; have g7 := blk_frozen X7.out; have y7 := blk_lt X7.out)
    | ((go_at_call 47; with_reducible refine (HO2.out _).mono ?_); rintro e w7 ⟨rfl, hb⟩; have HB8 := Aside0.mk (HB7.out.trans (hb.mono HB7.out.size)); clear hb))
  go_ret
  exact ⟨rfl, HB8.out⟩

/-- One turn: what to do, when, how many, how many live. -/
structure Act where
  (go : Int) (now : Int) (n : Int) (live : Int)

/-- What a turn's numbers are. -/
structure Act.Ok (a : Act) : Prop where
  go0 : 0 ≤ a.go
  go1 : a.go ≤ 255
  now0 : 0 ≤ a.now
  now1 : a.now < 18446744073709551616
  n0 : 0 ≤ a.n
  n1 : a.n < 18446744073709551616
  live0 : -9223372036854775808 ≤ a.live
  live1 : a.live ≤ 9223372036854775807

abbrev ac (a : Act) : Array Value := #[.int .u8 a.go, .int .u64 a.now, .int .u64 a.n, .int .i64 a.live]

/-- A row of turns in memory. -/
def Acts (w : World) (A : Option Addr) (l : List Act) : Prop :=
  ∀ i a, l[i]? = some a → a.Ok ∧ ∃ ad, A = some ad ∧ w.cell? (ad.add (i * 4)) = some (.int .u8 a.go) ∧ w.cell? (ad.add (i * 4 + 1)) = some (.int .u64 a.now) ∧ w.cell? (ad.add (i * 4 + 2)) = some (.int .u64 a.n) ∧ w.cell? (ad.add (i * 4 + 3)) = some (.int .i64 a.live)

theorem add_far (ad : Addr) (m j : Nat) : ad.add (m + (j + 1)) = ⟨(ad.add m).block, (ad.add m).off + (j + 1), none⟩ := by
  unfold Addr.add
  by_cases h : m = 0
  · subst h; simp
  · rw [if_neg (by omega), if_neg h]
    simp [Nat.add_assoc]

/-- The cells of one turn, as a walk reads them in any later world. -/
theorem Acts.at {w w1 : World} {A : Option Addr} {l : List Act} (h : Acts w A l) (hb : Below w.heap.size w w1) {i : Nat} {a : Act} (hi : l[i]? = some a) :
    a.Ok ∧ ∃ ad, A = some ad ∧ w1.cell? (ad.add (i * 4)) = some (.int .u8 a.go) ∧ w1.cell? ⟨(ad.add (i * 4)).block, (ad.add (i * 4)).off + 1, none⟩ = some (.int .u64 a.now) ∧
      w1.cell? ⟨(ad.add (i * 4)).block, (ad.add (i * 4)).off + 2, none⟩ = some (.int .u64 a.n) ∧ w1.cell? ⟨(ad.add (i * 4)).block, (ad.add (i * 4)).off + 3, none⟩ = some (.int .i64 a.live) := by
  obtain ⟨ho, ad, had, h0, h1, h2, h3⟩ := h i a hi
  refine ⟨ho, ad, had, pw_cell_below hb h0, ?_, ?_, ?_⟩
  · rw [← add_far ad (i * 4) 0]; exact pw_cell_below hb h1
  · rw [← add_far ad (i * 4) 1]; exact pw_cell_below hb h2
  · rw [← add_far ad (i * 4) 2]; exact pw_cell_below hb h3
end Go.Proofs.YthpmhjlndnelfaaDoor.Real
