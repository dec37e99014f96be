/- DrainShares: the walk of the law. The conditions: the numbers' widths; the tables are laid. -/
import Derived.Test.YthpmhjlndnelfaaDoorMyLeft
import Derived.Test.YthpmhjlndnelfaaDoorMyOnce
namespace Go.Proofs.YthpmhjlndnelfaaDoor.Real
open Go.RowKit Go.Lib Go.Proofs.YthpmhjlndnelfaaDoorW.PrintWords PDrainTurns


theorem far_five {w : World} {g g' : Nat} {cs : Array Value} {t : TypeId} (hne : g ≠ g') (h : w.heap[g]? = some (.cells cs t (0, 0))) (v0 v1 v2 v3 v4 : Value) :
    Bx (((((w.setCell ⟨g', 0, none⟩ v0).setCell ⟨g', 1, none⟩ v1).setCell ⟨g', 2, none⟩ v2).setCell ⟨g', 3, none⟩ v3).setCell ⟨g', 4, none⟩ v4) g cs t :=
  blk_far (blk_far (blk_far (blk_far (blk_far h hne _) hne _) hne _) hne _) hne _

set_option maxRecDepth 100000 in
set_option maxHeartbeats 1000000 in
theorem end_some (n v : Int) (hn0 : 0 ≤ n) (hn : n < 18446744073709551616) (hv : 1 ≤ v) (hv2 : v < 65536) (w : World) :
    Calls Tryd.prog 52 #[.int .u64 n, .int .i64 v] w fun e w' => e = .returned (dv true true 1 n v) ∧ Below w.heap.size w w' := by
  have hu41 := Tryd.underlying41
  have HA := Aside0.mk (begin_off false 0 0 0 0 1 1 rfl)
  have HC := Aside0.mk (closed_on 1 0 0 n n (by rw [add_sat 0 n (by omega) (by omega) (by omega) (by omega)]; unfold sat; rw [if_pos (by omega)]; congr 1; omega))
  have HK := Aside0.mk (tick_force 1 n 0 5 v v (by omega) (by omega) (by rw [IntKind.wrap_u64, add_sat 0 _ (by omega) (by omega) (by omega) (by omega)]; unfold sat; rw [if_pos (by omega)]; congr 1; omega))
  have hg : decide (v > 0) = true := decide_eq_true (by omega)
  clear hn0 hn hv hv2
  go_enter Tryd.func52, Tryd.ntmps52
  go_wp2_with (first
    | ((go_at_call 29; with_reducible refine (HA.out _).mono ?_); rintro e w1 ⟨rfl, hb⟩; have HB1 := Aside0.mk (bel_step (below_alloc (Below.refl _ _) _) hb); have B1 := Aside0.mk (blk_below (blk_new w (.cells (dc false false 0 0 0) 41)) hb); have hbz := hb.size; have HLT := Aside0.mk (Nat.lt_of_lt_of_le (Nat.lt_of_lt_of_le (Nat.lt_succ_self _) (Nat.le_of_eq (by simp : w.heap.size + 1 = (w.alloc (.cells (dc false false 0 0 0) 41)).heap.size))) hbz); clear hb hbz; have c1 := blk_cell B1.out; have f1 := blk_frozen B1.out; have z1 := blk_lt B1.out)
    | ((go_at_call 32; with_reducible refine (HC.out _).mono ?_); rintro e w2 ⟨rfl, hb⟩; have HB2 := Aside0.mk (bel_step (below_alloc HB1.out _) hb); have B2 := Aside0.mk (blk_below (blk_alloc B1.out _) hb); have D2 := Aside0.mk (blk_below (blk_new w1 (.cells (dc true false 1 0 0) 41)) hb); clear hb; have c2 := blk_cell B2.out; have f2 := blk_frozen B2.out; have z2 := blk_lt B2.out; have p2 := blk_cell D2.out; have q2 := blk_frozen D2.out; have r2 := blk_lt D2.out)
    | ((go_at_call 30; with_reducible refine (HK.out _).mono ?_); rintro e w3 ⟨rfl, hb⟩; have HB3 := Aside0.mk (bel_step HB2.out hb); have B3 := Aside0.mk (blk_below B2.out hb); have D3 := Aside0.mk (blk_below D2.out hb); clear hb; have c3 := blk_cell B3.out; have f3 := blk_frozen B3.out; have z3 := blk_lt B3.out; have p3 := blk_cell D3.out; have q3 := blk_frozen D3.out; have r3 := blk_lt D3.out))
  refine bodyPost_ret (v := dv true true 1 n v) (by simp [results, Tryd.results52, go_sem, c3]) rfl ⟨rfl, ?_⟩
  have g1 : w.heap.size ≤ w.heap.size := Nat.le_refl _
  have g2 : w.heap.size ≤ w1.heap.size := HB1.out.size
  repeat (with_reducible first | exact HB3.out | apply below_alloc | refine below_set ?_ g1 | refine below_set ?_ g2)

set_option maxRecDepth 100000 in
set_option maxHeartbeats 1000000 in
theorem end_none (n : Int) (hn0 : 0 ≤ n) (hn : n < 18446744073709551616) (w : World) :
    Calls Tryd.prog 52 #[.int .u64 n, .int .i64 0] w fun e w' => e = .returned (dv true true 1 n 0) ∧ Below w.heap.size w w' := by
  have hu41 := Tryd.underlying41
  have HA := Aside0.mk (begin_off false 0 0 0 0 1 1 rfl)
  have HC := Aside0.mk (closed_on 1 0 0 n n (by rw [add_sat 0 n (by omega) (by omega) (by omega) (by omega)]; unfold sat; rw [if_pos (by omega)]; congr 1; omega))
  have HK := Aside0.mk (tick_none 1 n 0 5 0 (by omega))
  have HI := Aside0.mk (tick_idle true true 1 n 0 6 0 rfl)
  clear hn0 hn
  go_enter Tryd.func52, Tryd.ntmps52
  go_wp2_with (first
    | ((go_at_call 29; with_reducible refine (HA.out _).mono ?_); rintro e w1 ⟨rfl, hb⟩; have HB1 := Aside0.mk (bel_step (below_alloc (Below.refl _ _) _) hb); have B1 := Aside0.mk (blk_below (blk_new w (.cells (dc false false 0 0 0) 41)) hb); have hbz := hb.size; have HLT := Aside0.mk (Nat.lt_of_lt_of_le (Nat.lt_of_lt_of_le (Nat.lt_succ_self _) (Nat.le_of_eq (by simp : w.heap.size + 1 = (w.alloc (.cells (dc false false 0 0 0) 41)).heap.size))) hbz); clear hb hbz; have c1 := blk_cell B1.out; have f1 := blk_frozen B1.out; have z1 := blk_lt B1.out)
    | ((go_at_call 32; with_reducible refine (HC.out _).mono ?_); rintro e w2 ⟨rfl, hb⟩; have HB2 := Aside0.mk (bel_step (below_alloc HB1.out _) hb); have B2 := Aside0.mk (blk_below (blk_alloc B1.out _) hb); have D2 := Aside0.mk (blk_below (blk_new w1 (.cells (dc true false 1 0 0) 41)) hb); clear hb; have c2 := blk_cell B2.out; have f2 := blk_frozen B2.out; have z2 := blk_lt B2.out; have p2 := blk_cell D2.out; have q2 := blk_frozen D2.out; have r2 := blk_lt D2.out)
    | ((go_at_call 30; with_reducible refine (HK.out _).mono ?_); rintro e w3 ⟨rfl, hb⟩; have HB3 := Aside0.mk (bel_step HB2.out hb); have B3 := Aside0.mk (blk_below B2.out hb); have D3 := Aside0.mk (blk_below D2.out hb); clear hb; have c3 := blk_cell B3.out; have f3 := blk_frozen B3.out; have z3 := blk_lt B3.out; have p3 := blk_cell D3.out; have q3 := blk_frozen D3.out; have r3 := blk_lt D3.out)
    | ((go_at_call 30; with_reducible refine (HI.out _).mono ?_); rintro e w4 ⟨rfl, hb⟩; have HB4 := Aside0.mk (bel_step (below_five HB3.out HB1.out.size _ _ _ _ _) hb); have B4 := Aside0.mk (blk_below (far_five (Nat.ne_of_lt HLT.out) B3.out _ _ _ _ _) hb); have D4 := Aside0.mk (blk_below (box_five D3.out _ _ _ _ _) hb); clear hb; have c4 := blk_cell B4.out; have f4 := blk_frozen B4.out; have z4 := blk_lt B4.out; have p4 := blk_cell D4.out; have q4 := blk_frozen D4.out; have r4 := blk_lt D4.out))
  refine bodyPost_ret (v := dv true true 1 n 0) (by simp [results, Tryd.results52, go_sem, c4]) rfl ⟨rfl, ?_⟩
  have g1 : w.heap.size ≤ w.heap.size := Nat.le_refl _
  have g2 : w.heap.size ≤ w1.heap.size := HB1.out.size
  repeat (with_reducible first | exact HB4.out | apply below_alloc | refine below_set ?_ g1 | refine below_set ?_ g2)

theorem qt_self (x : Nat) (h0 : x ≠ 0) (h : x < 18446744073709551616) : qt x x = 4607182418800017408 := by
  obtain ⟨x1, x2⟩ := nr_ends x h0 h
  have hr : rg (nr x 0) = nr x 0 := Nat.mod_eq_of_lt (by omega)
  unfold qt
  rw [div_self (nr x 0) (by omega) (by rw [hr]; omega) (by rw [hr]; omega)]
  rfl

theorem ord_small (p q : Nat) (hp : p ≤ 4607182418800017408) (hq : q ≤ 4607182418800017408) : FloatKind.f64.format.order p q = some (if p < q then .lt else if p = q then .eq else .gt) := by
  have hb : ∀ x, x ≤ 4607182418800017408 → nan x = false ∧ key x = (x : Int) := fun x hx => by
    have hr : rg x = x := Nat.mod_eq_of_lt (by omega)
    have hs : sg x = false := decide_eq_false (by omega)
    refine ⟨by unfold nan; rw [hr]; exact decide_eq_false (by omega), ?_⟩
    unfold key
    rw [hs, hr]
    rfl
  obtain ⟨n1, k1⟩ := hb p hp
  obtain ⟨n2, k2⟩ := hb q hq
  rw [f64, order_key p q (by omega) (by omega) n1 n2, k1, k2, cmp_int]
  congr 1
  by_cases h1 : p < q
  · rw [if_pos h1, if_pos (by omega)]
  · by_cases h2 : p = q
    · rw [if_neg h1, if_pos h2, if_neg (by omega), if_pos (by omega)]
    · rw [if_neg h1, if_neg h2, if_neg (by omega), if_neg (by omega)]

theorem left_full (n : Int) (h0 : 0 ≤ n) (h : n < 18446744073709551616) (w : World) :
    Calls Tryd.prog 49 #[dv true true 1 n 0] w fun e w' => e = .returned (.float .f64 4607182418800017408) ∧ Below w.heap.size w w' := by
  have hs : word_Add.f n 0 = some n := by rw [add_sat n 0 h0 h (by omega) (by omega)]; unfold sat; rw [if_pos (by omega)]; congr 1; omega
  by_cases hz : n = 0
  · subst hz
    exact left_none true 1 0 0 hs w
  · obtain ⟨k, rfl⟩ : ∃ k : Nat, n = k := ⟨n.toNat, by omega⟩
    have := left_some true 1 k k 0 hs (by omega) (Nat.le_refl _) (by omega) w
    rw [qt_self k (by omega) (by omega)] at this
    exact this

theorem left_part (n v : Nat) (hv : 0 < v) (h : n + v < 18446744073709551616) (w : World) :
    Calls Tryd.prog 49 #[dv true true 1 (n : Int) (v : Int)] w fun e w' => e = .returned (.float .f64 (qt n (n + v))) ∧ Below w.heap.size w w' := by
  have hs : word_Add.f (n : Int) (v : Int) = some ((n + v : Nat) : Int) := by rw [add_sat (n : Int) (v : Int) (by omega) (by omega) (by omega) (by omega)]; unfold sat; rw [if_pos (by omega)]; congr 1
  exact left_some true 1 n (n + v) (v : Int) hs (by omega) (by omega) h w

theorem conv_u32 (a : Int) (h0 : 0 ≤ a) (h : a < 18446744073709551616) (W : World) : (convert 77 29 (.int .u32 a)).run Tryd.prog W = .ok (.int .u64 a) W := by
  have e : a = IntKind.u64.wrap a := by rw [IntKind.wrap_u64]; omega
  conv => rhs; rw [e]
  simp [convert, go_sem]
theorem wrap_small (a : Int) (h0 : 0 ≤ a) (h : a < 65536) : IntKind.i64.wrap a = a := by
  rw [IntKind.wrap_i64]
  omega
theorem conv_u16 (a : Int) (h0 : 0 ≤ a) (h : a < 65536) (W : World) : (convert 32 3 (.int .u16 a)).run Tryd.prog W = .ok (.int .i64 a) W := by
  have e := wrap_small a h0 h
  conv => rhs; rw [← e]
  simp [convert, go_sem]

theorem least_nil (w : World) : Calls Tryd.prog 34 #[.slice none 0 0] w fun e w' => e = .returned (.float .f64 9221120237041090561) ∧ w = w' := by
  go_enter Tryd.func34, Tryd.ntmps34
  go_wp2_with (go_at_call 50; refine (nan50 _).mono ?_; rintro e w' ⟨rfl, rfl⟩)
  go_ret
  exact ⟨rfl, rfl⟩

set_option maxRecDepth 100000 in
set_option maxHeartbeats 2000000 in
theorem shares_some (a b v s : Int) (p q : Nat) (hs : s = a + b) (a0 : 0 ≤ a) (a1 : a < 4294967296) (b0 : 0 ≤ b) (b1 : b < 4294967296) (v0 : 1 ≤ v) (v1 : v < 65536) (w : World) (ht : Tabs w)
    (hp : ∀ W, Calls Tryd.prog 49 #[dv true true 1 a v] W fun e w' => e = .returned (.float .f64 p) ∧ Below W.heap.size W w')
    (hq : ∀ W, Calls Tryd.prog 49 #[dv true true 1 s v] W fun e w' => e = .returned (.float .f64 q) ∧ Below W.heap.size W w')
    (hb1 : (FloatKind.f64.format.order p q == some Ordering.lt || FloatKind.f64.format.order p q == some Ordering.eq) = true) (hb2 : (FloatKind.f64.format.order p 0 == some Ordering.gt || FloatKind.f64.format.order p 0 == some Ordering.eq) = true)
    (hb3 : (FloatKind.f64.format.order q 4607182418800017408 == some Ordering.lt) = true) (hb4 : decide (a > 0) = true ∨ decide (a > 0) = false ∧ (FloatKind.f64.format.order p 0 == some Ordering.eq) = true) :
    Calls Tryd.prog 13 #[.int .u32 a, .int .u32 b, .int .u16 v] w fun e w' => e = .returned (.bool true) ∧ Below w.heap.size w w' := by
  have hu41 := Tryd.underlying41
  have HT := Aside0.mk ht
  have HE1 := Aside0.mk (end_some a v a0 (by omega) v0 v1)
  have HE2 := Aside0.mk (end_some s v (by omega) (by omega) v0 v1)
  have HP := Aside0.mk hp
  have HQ := Aside0.mk hq
  have k1 := fun W => conv_u32 a a0 (by omega) W
  have k2 := fun W => conv_u32 b b0 (by omega) W
  have k3 := fun W => conv_u16 v (by omega) v1 W
  have hw : IntKind.u64.wrap (a + b) = s := by rw [IntKind.wrap_u64, hs]; omega
  have hv : (v == 0) = false := beq_eq_false_iff_ne.2 (by omega)
  have HZ := Aside0.mk (left_on false 0 0 0 0 rfl)
  have HS := Aside0.mk (same_at 9221120237041090561 9221120237041090561 0 (by omega) (by omega) (cp_self _))
  clear ht hs a0 a1 b0 b1 v0 v1 hp hq
  have HB4 := Aside0.mk hb4
  clear hb4
  go_enter Tryd.func13, Tryd.ntmps13
  go_wp2_with (first
    | (go_at_call 28; refine (awake25 _ HT.out).mono ?_; rintro e w1 ⟨rfl, hb1⟩; have HB1 := Aside0.mk hb1; clear hb1)
    | ((go_at_call 52; with_reducible refine (HE1.out _).mono ?_); rintro e w2 ⟨rfl, hb⟩; have HB2 := Aside0.mk (bel_step HB1.out hb); clear hb)
    | ((go_at_call 52; with_reducible refine (HE2.out _).mono ?_); rintro e w3 ⟨rfl, hb⟩; have HB3 := Aside0.mk (bel_step HB2.out hb); clear hb))
  have BX0 : Bx ((w3.alloc (.cells (dc true true 1 a v) 41)).alloc (.cells (dc true true 1 s v) 41)) w3.heap.size (dc true true 1 a v) 41 := blk_alloc (blk_new _ _) _
  have BY0 : Bx ((w3.alloc (.cells (dc true true 1 a v) 41)).alloc (.cells (dc true true 1 s v) 41)) (w3.heap.size + 1) (dc true true 1 s v) 41 := by
    have h := blk_new (w3.alloc (.cells (dc true true 1 a v) 41)) (.cells (dc true true 1 s v) 41)
    rwa [show (w3.alloc (.cells (dc true true 1 a v) 41)).heap.size = w3.heap.size + 1 by simp] at h
  have HW0 := below_alloc (below_alloc HB3.out (.cells (dc true true 1 a v) 41)) (.cells (dc true true 1 s v) 41)
  generalize hW4 : (w3.alloc (.cells (dc true true 1 a v) 41)).alloc (.cells (dc true true 1 s v) 41) = W4 at *
  generalize w3.heap.size = G at *
  have BX := Aside0.mk (blk_drew BX0)
  have BY := Aside0.mk (blk_drew BY0)
  have HW := Aside0.mk (below_drew1 HW0)
  have cBX := blk_cell BX0
  have fBX := blk_frozen BX0
  have zBX := blk_lt BX0
  have cBY := blk_cell BY0
  have fBY := blk_frozen BY0
  have zBY := blk_lt BY0
  clear BX0 BY0 HW0 hW4
  go_region_with (first
    | ((go_at_call 49; with_reducible refine (HP.out _).mono ?_); rintro e w5 ⟨rfl, hb⟩; have nBX := Aside0.mk (blk_below (BX.out) hb); have nBY := Aside0.mk (blk_below (BY.out) hb); have nW := Aside0.mk (bel_step HW.out hb); clear hb; (try clear cBX); (try clear fBX); (try clear zBX); (try clear BX); have BX := nBX; clear nBX; have cBX := blk_cell BX.out; have fBX := blk_frozen BX.out; have zBX := blk_lt BX.out; (try clear cBY); (try clear fBY); (try clear zBY); (try clear BY); have BY := nBY; clear nBY; have cBY := blk_cell BY.out; have fBY := blk_frozen BY.out; have zBY := blk_lt BY.out; (try clear HW); have HW := nW; clear nW)
    | ((go_at_call 49; with_reducible refine (HQ.out _).mono ?_); rintro e w6 ⟨rfl, hb⟩; have nBX := Aside0.mk (blk_below (BX.out) hb); have nBY := Aside0.mk (blk_below (BY.out) hb); have nW := Aside0.mk (bel_step HW.out hb); clear hb; (try clear cBX); (try clear fBX); (try clear zBX); (try clear BX); have BX := nBX; clear nBX; have cBX := blk_cell BX.out; have fBX := blk_frozen BX.out; have zBX := blk_lt BX.out; (try clear cBY); (try clear fBY); (try clear zBY); (try clear BY); have BY := nBY; clear nBY; have cBY := blk_cell BY.out; have fBY := blk_frozen BY.out; have zBY := blk_lt BY.out; (try clear HW); have HW := nW; clear nW))
  all_goals
    rcases HB4.out with ha | ⟨ha, hb4⟩
  all_goals
    go_wp2_with (first
      | ((go_at_call 49; with_reducible refine (HZ.out _).mono ?_); rintro e w7 ⟨rfl, hb⟩; have nW := Aside0.mk (bel_step HW.out hb); clear HW hb; have HW := nW; clear nW)
      | ((go_at_call 34; with_reducible refine (least_nil _).mono ?_); rintro e w8 ⟨rfl, rfl⟩)
      | ((go_at_call 19; with_reducible refine (HS.out _).mono ?_); rintro e w9 ⟨rfl, rfl⟩))
    go_ret
    exact ⟨rfl, HW.out⟩
theorem share_mono (a b v : Nat) : a * (a + b + v) ≤ (a + b) * (a + v) := by
  have h1 : a * (a + b + v) = a * (a + v) + a * b := by rw [← Nat.mul_add]; congr 1; omega
  have h2 : (a + b) * (a + v) = a * (a + v) + b * (a + v) := Nat.add_mul _ _ _
  have h3 : b * a ≤ b * (a + v) := Nat.mul_le_mul_left _ (by omega)
  have h4 := Nat.mul_comm a b
  omega

set_option maxRecDepth 100000 in
set_option maxHeartbeats 2000000 in
theorem shares_none (a b s : Int) (hs : s = a + b) (a0 : 0 ≤ a) (a1 : a < 4294967296) (b0 : 0 ≤ b) (b1 : b < 4294967296) (w : World) (ht : Tabs w) :
    Calls Tryd.prog 13 #[.int .u32 a, .int .u32 b, .int .u16 0] w fun e w' => e = .returned (.bool true) ∧ Below w.heap.size w w' := by
  have hu41 := Tryd.underlying41
  have HT := Aside0.mk ht
  have HE1 := Aside0.mk (end_none a a0 (by omega))
  have HE2 := Aside0.mk (end_none s (by omega) (by omega))
  have HP := Aside0.mk (left_full a a0 (by omega))
  have HQ := Aside0.mk (left_full s (by omega) (by omega))
  have k1 := fun W => conv_u32 a a0 (by omega) W
  have k2 := fun W => conv_u32 b b0 (by omega) W
  have k3 := fun W => conv_u16 0 (by omega) (by omega) W
  have hw : IntKind.u64.wrap (a + b) = s := by rw [IntKind.wrap_u64, hs]; omega
  have ho := ord_one
  clear ht hs a0 a1 b0 b1
  go_enter Tryd.func13, Tryd.ntmps13
  go_wp2_with (first
    | (go_at_call 28; refine (awake25 _ HT.out).mono ?_; rintro e w1 ⟨rfl, hb1⟩; have HB1 := Aside0.mk hb1; clear hb1)
    | ((go_at_call 52; with_reducible refine (HE1.out _).mono ?_); rintro e w2 ⟨rfl, hb⟩; have HB2 := Aside0.mk (bel_step HB1.out hb); clear hb)
    | ((go_at_call 52; with_reducible refine (HE2.out _).mono ?_); rintro e w3 ⟨rfl, hb⟩; have HB3 := Aside0.mk (bel_step HB2.out hb); clear hb))
  have BX0 : Bx ((w3.alloc (.cells (dc true true 1 a 0) 41)).alloc (.cells (dc true true 1 s 0) 41)) w3.heap.size (dc true true 1 a 0) 41 := blk_alloc (blk_new _ _) _
  have BY0 : Bx ((w3.alloc (.cells (dc true true 1 a 0) 41)).alloc (.cells (dc true true 1 s 0) 41)) (w3.heap.size + 1) (dc true true 1 s 0) 41 := by
    have h := blk_new (w3.alloc (.cells (dc true true 1 a 0) 41)) (.cells (dc true true 1 s 0) 41)
    rwa [show (w3.alloc (.cells (dc true true 1 a 0) 41)).heap.size = w3.heap.size + 1 by simp] at h
  have HW0 := below_alloc (below_alloc HB3.out (.cells (dc true true 1 a 0) 41)) (.cells (dc true true 1 s 0) 41)
  generalize hW4 : (w3.alloc (.cells (dc true true 1 a 0) 41)).alloc (.cells (dc true true 1 s 0) 41) = W4 at *
  generalize w3.heap.size = G at *
  have BX := Aside0.mk (blk_drew BX0)
  have BY := Aside0.mk (blk_drew BY0)
  have HW := Aside0.mk (below_drew1 HW0)
  have cBX := blk_cell BX0
  have fBX := blk_frozen BX0
  have zBX := blk_lt BX0
  have cBY := blk_cell BY0
  have fBY := blk_frozen BY0
  have zBY := blk_lt BY0
  clear BX0 BY0 HW0 hW4
  go_region_with (first
    | ((go_at_call 49; with_reducible refine (HP.out _).mono ?_); rintro e w5 ⟨rfl, hb⟩; have nBX := Aside0.mk (blk_below (BX.out) hb); have nBY := Aside0.mk (blk_below (BY.out) hb); have nW := Aside0.mk (bel_step HW.out hb); clear hb; (try clear cBX); (try clear fBX); (try clear zBX); (try clear BX); have BX := nBX; clear nBX; have cBX := blk_cell BX.out; have fBX := blk_frozen BX.out; have zBX := blk_lt BX.out; (try clear cBY); (try clear fBY); (try clear zBY); (try clear BY); have BY := nBY; clear nBY; have cBY := blk_cell BY.out; have fBY := blk_frozen BY.out; have zBY := blk_lt BY.out; (try clear HW); have HW := nW; clear nW)
    | ((go_at_call 49; with_reducible refine (HQ.out _).mono ?_); rintro e w6 ⟨rfl, hb⟩; have nBX := Aside0.mk (blk_below (BX.out) hb); have nBY := Aside0.mk (blk_below (BY.out) hb); have nW := Aside0.mk (bel_step HW.out hb); clear hb; (try clear cBX); (try clear fBX); (try clear zBX); (try clear BX); have BX := nBX; clear nBX; have cBX := blk_cell BX.out; have fBX := blk_frozen BX.out; have zBX := blk_lt BX.out; (try clear cBY); (try clear fBY); (try clear zBY); (try clear BY); have BY := nBY; clear nBY; have cBY := blk_cell BY.out; have fBY := blk_frozen BY.out; have zBY := blk_lt BY.out; (try clear HW); have HW := nW; clear nW))
  all_goals
    go_wp2
    go_ret
    exact ⟨rfl, HW.out⟩

theorem shares_row (a b v : Int) (ha : (Lit.int .u32 a).wf = true) (hb : (Lit.int .u32 b).wf = true) (hv : (Lit.int .u16 v).wf = true) (w : World) (ht : Tabs w) :
    Calls Tryd.prog 13 #[.int .u32 a, .int .u32 b, .int .u16 v] w fun e w' => e = .returned (.bool true) ∧ Below w.heap.size w w' := by
  have h1 : 0 ≤ a ∧ a < 4294967296 := by
    simp [Lit.wf, IntKind.min, IntKind.max, IntKind.signed, IntKind.bits] at ha
    omega
  have h2 : 0 ≤ b ∧ b < 4294967296 := by
    simp [Lit.wf, IntKind.min, IntKind.max, IntKind.signed, IntKind.bits] at hb
    omega
  have h3 : 0 ≤ v ∧ v < 65536 := by
    simp [Lit.wf, IntKind.min, IntKind.max, IntKind.signed, IntKind.bits] at hv
    omega
  by_cases hz : v = 0
  · subst hz
    exact shares_none a b (a + b) rfl h1.1 h1.2 h2.1 h2.2 w ht
  · obtain ⟨A, rfl⟩ : ∃ k : Nat, a = k := ⟨a.toNat, by omega⟩
    obtain ⟨B, rfl⟩ : ∃ k : Nat, b = k := ⟨b.toNat, by omega⟩
    obtain ⟨V, rfl⟩ : ∃ k : Nat, v = k := ⟨v.toNat, by omega⟩
    have hm := qt_mono A (A + V) (A + B) (A + B + V) (by omega) (by omega) (by omega) (by omega) (by omega) (by omega) (share_mono A B V)
    have hl := qt_lt_one (A + B) (A + B + V) (by omega) (by omega)
    have hq := left_part (A + B) V (by omega) (by omega)
    rw [Int.natCast_add] at hq
    refine shares_some A B V (A + B) _ _ rfl h1.1 h1.2 h2.1 h2.2 (by omega) h3.2 w ht (left_part A V (by omega) (by omega)) hq ?_ ?_ ?_ ?_
    · rw [ord_small _ _ (by omega) (by omega)]
      split
      · rfl
      · rw [if_pos (by omega)]; rfl
    · rw [ord_small _ 0 (by omega) (by omega), if_neg (by omega)]
      split <;> rfl
    · rw [ord_small _ _ (by omega) (by omega), if_pos hl]; rfl
    · by_cases ha0 : (A : Int) > 0
      · exact .inl (decide_eq_true ha0)
      · obtain rfl : A = 0 := by omega
        refine .inr ⟨decide_eq_false (by omega), ?_⟩
        have : qt 0 (0 + V) = 0 := by unfold qt; rw [qt_none _ (by omega) (by omega)]; rfl
        rw [this, ord_small _ _ (by omega) (by omega), if_neg (by omega), if_pos rfl]
        rfl
end Go.Proofs.YthpmhjlndnelfaaDoor.Real
