/- Begin, Tick, Closed, On of the drain, the document's Closed: by hand. The conditions stand at each. -/
import Derived.Test.YthpmhjlndnelfaaDoorMyDrain
namespace Go.Proofs.YthpmhjlndnelfaaDoor.Real
open Go.RowKit Go.Lib Go.Proofs.YthpmhjlndnelfaaDoorW.PrintWords PDrainTurns

/-- A drain, as a value; the cells of it. -/
abbrev dv (b o : Bool) (d c f : Int) : Value := .agg #[.bool b, .bool o, .int .u64 d, .int .u64 c, .int .u64 f]
abbrev dc (b o : Bool) (d c f : Int) : Array Value := #[.bool b, .bool o, .int .u64 d, .int .u64 c, .int .u64 f]

/-- A sum that stops at the end. -/
def sat (a b : Int) : Int := if a + b < 18446744073709551616 then a + b else 18446744073709551615

theorem add_sat (a b : Int) (ha : 0 ≤ a) (ha2 : a < 18446744073709551616) (hb : 0 ≤ b) (hb2 : b < 18446744073709551616) : word_Add.f a b = some (sat a b) := by
  unfold word_Add.f sat
  rw [IntKind.wrap_u64, IntKind.wrap_u64]
  split <;> split <;> first | rfl | (congr 1; omega) | (exfalso; omega)

theorem later_sat (a b : Int) (ha : 0 ≤ a) (ha2 : a < 18446744073709551616) (hb : 0 ≤ b) (hb2 : b < 18446744073709551616) : vagabondref01_Later.f a b = some (sat a b) := by
  unfold vagabondref01_Later.f sat
  rw [IntKind.wrap_u64]
  split <;> split <;> first | rfl | (congr 1; omega) | (exfalso; omega)

theorem sat_bounds (a b : Int) (ha : 0 ≤ a) (hb : 0 ≤ b) : 0 ≤ sat a b ∧ sat a b < 18446744073709551616 := by
  unfold sat
  split <;> omega

theorem on_exact (b o : Bool) (d c f : Int) (r : Bool) (w : World) (hr : (b && !o) = r) :
    Calls Tryd.prog 47 #[dv b o d c f] w fun e w' => e = .returned (.bool r) ∧ w.alloc (.cells (dc b o d c f) 41) = w' := by
  subst hr
  have hu41 := Tryd.underlying41
  cases b <;> cases o <;>
  · go_enter Tryd.func47, Tryd.ntmps47
    go_wp2
    go_ret
    exact ⟨rfl, rfl⟩

set_option maxRecDepth 100000 in
theorem begin_off (o : Bool) (d c f now n s : Int) (hadd : word_Add.f now n = some s) (w : World) :
    Calls Tryd.prog 29 #[dv false o d c f, .int .u64 now, .int .u64 n] w fun e w' => e = .returned (.tuple #[dv true o s c f, .int .i64 0]) ∧ Below w.heap.size w w' := by
  have hu41 := Tryd.underlying41
  have HA := Aside0.mk (fun W => word_Add.calls now n s W hadd)
  clear hadd
  go_enter Tryd.func29, Tryd.ntmps29
  go_wp2_with (go_at_call 65; refine (HA.out _).mono ?_; rintro e w' ⟨rfl, ⟨n1, rfl⟩⟩)
  refine bodyPost_ret (v := .tuple #[dv true o s c f, .int .i64 0]) (by simp [results, Tryd.results29, go_sem]) rfl ⟨rfl, ?_⟩
  repeat (with_reducible first | exact Below.refl _ _ | apply below_alloc | apply pw_below_drewN | apply below_drew1 | refine below_set ?_ (Nat.le_refl _) | refine below_set ?_ (Nat.le_succ _))

set_option maxRecDepth 100000 in
theorem begin_on (o : Bool) (d c f now n : Int) (w : World) :
    Calls Tryd.prog 29 #[dv true o d c f, .int .u64 now, .int .u64 n] w fun e w' => e = .returned (.tuple #[dv true o d c f, .int .i64 17]) ∧ Below w.heap.size w w' := by
  have hu41 := Tryd.underlying41
  go_enter Tryd.func29, Tryd.ntmps29
  go_wp2
  refine bodyPost_ret (v := .tuple #[dv true o d c f, .int .i64 17]) (by simp [results, Tryd.results29, go_sem]) rfl ⟨rfl, ?_⟩
  repeat (with_reducible first | exact Below.refl _ _ | apply below_alloc | apply pw_below_drewN | apply below_drew1 | refine below_set ?_ (Nat.le_refl _) | refine below_set ?_ (Nat.le_succ _))

set_option maxRecDepth 100000 in
theorem tick_idle (b o : Bool) (d c f now n : Int) (h : (b && !o) = false) (w : World) :
    Calls Tryd.prog 30 #[dv b o d c f, .int .u64 now, .int .i64 n] w fun e w' => e = .returned (.tuple #[dv b o d c f, .bool false]) ∧ Below w.heap.size w w' := by
  have hu41 := Tryd.underlying41
  have HO := Aside0.mk (fun W => on_exact b o d c f false W h)
  clear h
  go_enter Tryd.func30, Tryd.ntmps30
  go_wp2_with (go_at_call 47; refine (HO.out _).mono ?_; rintro e w1 ⟨rfl, rfl⟩)
  refine bodyPost_ret (v := .tuple #[dv b o d c f, .bool false]) (by simp [results, Tryd.results30, go_sem]) rfl ⟨rfl, ?_⟩
  repeat (with_reducible first | exact Below.refl _ _ | apply below_alloc | apply pw_below_drewN | apply below_drew1 | refine below_set ?_ (Nat.le_refl _) | refine below_set ?_ (Nat.le_succ _))

set_option maxRecDepth 100000 in
theorem tick_none (d c f now n : Int) (h : n < 1) (w : World) :
    Calls Tryd.prog 30 #[dv true false d c f, .int .u64 now, .int .i64 n] w fun e w' => e = .returned (.tuple #[dv true true d c f, .bool false]) ∧ Below w.heap.size w w' := by
  have hu41 := Tryd.underlying41
  have h1 : decide (n < 1) = true := decide_eq_true h
  have HO := Aside0.mk (fun W => on_exact true false d c f true W rfl)
  clear h
  go_enter Tryd.func30, Tryd.ntmps30
  go_wp2_with (go_at_call 47; refine (HO.out _).mono ?_; rintro e w1 ⟨rfl, rfl⟩)
  refine bodyPost_ret (v := .tuple #[dv true true d c f, .bool false]) (by simp [results, Tryd.results30, go_sem]) rfl ⟨rfl, ?_⟩
  repeat (with_reducible first | exact Below.refl _ _ | apply below_alloc | apply pw_below_drewN | apply below_drew1 | refine below_set ?_ (Nat.le_refl _) | refine below_set ?_ (Nat.le_succ _))

set_option maxRecDepth 100000 in
theorem tick_wait (d c f now n : Int) (h : ¬ n < 1) (h' : now < d) (w : World) :
    Calls Tryd.prog 30 #[dv true false d c f, .int .u64 now, .int .i64 n] w fun e w' => e = .returned (.tuple #[dv true false d c f, .bool false]) ∧ Below w.heap.size w w' := by
  have hu41 := Tryd.underlying41
  have h1 : decide (n < 1) = false := decide_eq_false h
  have h2 : decide (now < d) = true := decide_eq_true h'
  have HO := Aside0.mk (fun W => on_exact true false d c f true W rfl)
  clear h h'
  go_enter Tryd.func30, Tryd.ntmps30
  go_wp2_with (go_at_call 47; refine (HO.out _).mono ?_; rintro e w1 ⟨rfl, rfl⟩)
  refine bodyPost_ret (v := .tuple #[dv true false d c f, .bool false]) (by simp [results, Tryd.results30, go_sem]) rfl ⟨rfl, ?_⟩
  repeat (with_reducible first | exact Below.refl _ _ | apply below_alloc | apply pw_below_drewN | apply below_drew1 | refine below_set ?_ (Nat.le_refl _) | refine below_set ?_ (Nat.le_succ _))

set_option maxRecDepth 100000 in
theorem tick_force (d c f now n s : Int) (h : ¬ n < 1) (h' : ¬ now < d) (hadd : word_Add.f f (IntKind.u64.wrap n) = some s) (w : World) :
    Calls Tryd.prog 30 #[dv true false d c f, .int .u64 now, .int .i64 n] w fun e w' => e = .returned (.tuple #[dv true true d c s, .bool true]) ∧ Below w.heap.size w w' := by
  have hu41 := Tryd.underlying41
  have h1 : decide (n < 1) = false := decide_eq_false h
  have h2 : decide (now < d) = false := decide_eq_false h'
  have HO := Aside0.mk (fun W => on_exact true false d c f true W rfl)
  have HA := Aside0.mk (fun W => word_Add.calls f (IntKind.u64.wrap n) s W hadd)
  clear h h' hadd
  go_enter Tryd.func30, Tryd.ntmps30
  go_wp2_with (first | (go_at_call 47; refine (HO.out _).mono ?_; rintro e w1 ⟨rfl, hw1⟩; have b0 : w1.heap[w.heap.size]? = some (.cells (dc true false d c f) 41 (0, 0)) := (by rw [← hw1]; exact blk_alloc (blk_alloc (blk_new _ _) _) _); have b1 : w1.heap[w.heap.size + 1]? = some (.cells (dc false false 0 0 0) 41 (0, 0)) := (by rw [← hw1]; exact blk_alloc (by simpa using blk_new (w.alloc (.cells (dc true false d c f) 41)) (.cells (dc false false 0 0 0) 41)) _); have hB : Below w.heap.size w w1 := (by rw [← hw1]; exact below_alloc (below_alloc (below_alloc (Below.refl _ _) _) _) _); have HB := Aside0.mk hB; have hz := hB.size; have c0 := blk_cell b0; have c1 := blk_cell b1; have f0 := blk_frozen b0; have f1 := blk_frozen b1; have z0 := blk_lt b0; have z1 := blk_lt b1; clear b0 b1 hB hw1) | (go_at_call 65; refine (HA.out _).mono ?_; rintro e w' ⟨rfl, ⟨n1, rfl⟩⟩))
  refine bodyPost_ret (v := .tuple #[dv true true d c s, .bool true]) (by simp [results, Tryd.results30, go_sem, c1]) rfl ⟨rfl, ?_⟩
  repeat (with_reducible first | exact HB.out | apply below_alloc | apply pw_below_drewN | apply below_drew1 | refine below_set ?_ (Nat.le_refl _) | refine below_set ?_ (Nat.le_succ _))

set_option maxRecDepth 100000 in
theorem closed_off (b o : Bool) (d c f n : Int) (h : (b && !o) = false) (w : World) :
    Calls Tryd.prog 32 #[dv b o d c f, .int .u64 n] w fun e w' => e = .returned (dv b o d c f) ∧ Below w.heap.size w w' := by
  have hu41 := Tryd.underlying41
  have HO := Aside0.mk (fun W => on_exact b o d c f false W h)
  clear h
  go_enter Tryd.func32, Tryd.ntmps32
  go_wp2_with (go_at_call 47; refine (HO.out _).mono ?_; rintro e w1 ⟨rfl, rfl⟩)
  refine bodyPost_ret (v := dv b o d c f) (by simp [results, Tryd.results32, go_sem]) rfl ⟨rfl, ?_⟩
  repeat (with_reducible first | exact Below.refl _ _ | apply below_alloc | apply pw_below_drewN | apply below_drew1 | refine below_set ?_ (Nat.le_refl _) | refine below_set ?_ (Nat.le_succ _))

set_option maxRecDepth 100000 in
theorem closed_on (d c f n s : Int) (hadd : word_Add.f c n = some s) (w : World) :
    Calls Tryd.prog 32 #[dv true false d c f, .int .u64 n] w fun e w' => e = .returned (dv true false d s f) ∧ Below w.heap.size w w' := by
  have hu41 := Tryd.underlying41
  have HO := Aside0.mk (fun W => on_exact true false d c f true W rfl)
  have HA := Aside0.mk (fun W => word_Add.calls c n s W hadd)
  clear hadd
  go_enter Tryd.func32, Tryd.ntmps32
  go_wp2_with (first | (go_at_call 47; refine (HO.out _).mono ?_; rintro e w1 ⟨rfl, hw1⟩; have b0 : w1.heap[w.heap.size]? = some (.cells (dc true false d c f) 41 (0, 0)) := (by rw [← hw1]; exact blk_alloc (blk_alloc (blk_new _ _) _) _); have b1 : w1.heap[w.heap.size + 1]? = some (.cells (dc false false 0 0 0) 41 (0, 0)) := (by rw [← hw1]; exact blk_alloc (by simpa using blk_new (w.alloc (.cells (dc true false d c f) 41)) (.cells (dc false false 0 0 0) 41)) _); have hB : Below w.heap.size w w1 := (by rw [← hw1]; exact below_alloc (below_alloc (below_alloc (Below.refl _ _) _) _) _); have HB := Aside0.mk hB; have hz := hB.size; have c0 := blk_cell b0; have c1 := blk_cell b1; have f0 := blk_frozen b0; have f1 := blk_frozen b1; have z0 := blk_lt b0; have z1 := blk_lt b1; clear b0 b1 hB hw1) | (go_at_call 65; refine (HA.out _).mono ?_; rintro e w' ⟨rfl, ⟨n1, rfl⟩⟩))
  refine bodyPost_ret (v := dv true false d s f) (by simp [results, Tryd.results32, go_sem, c1]) rfl ⟨rfl, ?_⟩
  repeat (with_reducible first | exact HB.out | apply below_alloc | apply pw_below_drewN | apply below_drew1 | refine below_set ?_ (Nat.le_refl _) | refine below_set ?_ (Nat.le_succ _))
end Go.Proofs.YthpmhjlndnelfaaDoor.Real
