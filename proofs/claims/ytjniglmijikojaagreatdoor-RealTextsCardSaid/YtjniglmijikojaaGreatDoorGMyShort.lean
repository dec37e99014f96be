/- prescale, shortFloat: contracts. The condition: the table of tens is laid. -/
import Derived.Test.YtjniglmijikojaaGreatDoorGMyScale
import Derived.Test.YtjniglmijikojaaGreatDoorGOwnPw
import Derived.Lib.LaidTab
import Derived.Laws.Tables
namespace Go.Proofs.YtjniglmijikojaaGreatDoor.Text
open Go.RowKit Go.Lib Go.Proofs.YtjniglmijikojaaGreatDoor.Own

/-- What the walks ask of the table of powers of ten. -/
structure Tens (w : World) : Prop where
  big : 7 < w.heap.size
  row : ∀ p : Int, -348 ≤ p → p ≤ 347 → w.cell? ⟨7, (p + 348).toNat * 2, none⟩ = some (.int .u64 ((row10 p).1 : Int)) ∧ w.cell? ⟨7, (p + 348).toNat * 2 + 1, none⟩ = some (.int .u64 ((row10 p).2 : Int))
theorem Tens.below {w w' : World} (h : Tens w) (hb : Below w.heap.size w w') : Tens w' :=
  ⟨Nat.lt_of_lt_of_le h.big hb.size, fun p h1 h2 => ⟨by rw [hb.cell h.big]; exact (h.row p h1 h2).1, by rw [hb.cell h.big]; exact (h.row p h1 h2).2⟩⟩

set_option maxHeartbeats 1000000 in
theorem prescale_any (e p lp : Int) (w : World) (g : Nat) (a b c : Value) (ht : Tens w) (hg : w.heap[g]? = some (.cells #[a, b, c] 96 (0, 0))) (hg7 : g ≠ 7) (hp1 : -348 ≤ p) (hp2 : p ≤ 347) (he : -2000 ≤ e ∧ e ≤ 2000) (hl : -2000 ≤ lp ∧ lp ≤ 2000) :
    Calls Tryz.prog 62 #[.pointer (some ⟨g, 0, none⟩), .int .i64 e, .int .i64 p, .int .i64 lp] w fun e' w' => e' = .returned (.tuple #[]) ∧ Below g w w' ∧ w'.heap.size = w.heap.size ∧ w'.heap[g]? = some (.cells #[.int .u64 ((row10 p).1 : Int), .int .u64 ((row10 p).2 : Int), .int .i64 (-(e + lp + 3))] 96 (0, 0)) := by
  obtain ⟨t0, t1⟩ := ht.row p hp1 hp2
  generalize row10 p = r at *
  have d0 : w.cell? ⟨g, 0, none⟩ = some a := by simp [World.cell?, hg]
  have d1 : w.cell? ⟨g, 1, none⟩ = some b := by simp [World.cell?, hg]
  have d2 : w.cell? ⟨g, 2, none⟩ = some c := by simp [World.cell?, hg]
  have f0 : w.frozen? ⟨g, 0, none⟩ = false := by simp [World.frozen?, hg]
  have f1 : w.frozen? ⟨g, 1, none⟩ = false := by simp [World.frozen?, hg]
  have f2 : w.frozen? ⟨g, 2, none⟩ = false := by simp [World.frozen?, hg]
  have i0 : (0 : Int) ≤ p + 348 := by omega
  have i1 : p + 348 < 696 := by omega
  have HG := Aside0.mk hg
  have hg7' : (7 : Nat) ≠ g := Ne.symm hg7
  clear hg ht
  go_enter Tryz.func62, Tryz.ntmps62
  go_wp2
  go_end0
  have s0 := heap_setCell_same w g 0 _ _ (.int .u64 (r.1 : Int)) HG.out
  have s1 := heap_setCell_same _ g 1 _ _ (.int .u64 (r.2 : Int)) s0
  have s2 := heap_setCell_same _ g 2 _ _ (.int .i64 (-(e + lp + 3))) s1
  have hb : Below g w (((w.setCell ⟨g, 0, none⟩ (.int .u64 (r.1 : Int))).setCell ⟨g, 1, none⟩ (.int .u64 (r.2 : Int))).setCell ⟨g, 2, none⟩ (.int .i64 (-(e + lp + 3)))) :=
    Below.setCell (Below.setCell (Below.setCell (Below.refl _ _) (Nat.le_refl g) _) (Nat.le_refl g) _) (Nat.le_refl g) _
  have hz : (((w.setCell ⟨g, 0, none⟩ (.int .u64 (r.1 : Int))).setCell ⟨g, 1, none⟩ (.int .u64 (r.2 : Int))).setCell ⟨g, 2, none⟩ (.int .i64 (-(e + lp + 3)))).heap.size = w.heap.size := by simp
  exact ⟨rfl, hb, hz, s2⟩


theorem rows_ok : (Go.Pinned.pow10Rows.length == 696 && Go.Pinned.pow10Rows.all fun x => decide (9223372036854775808 ≤ x.1) && decide (x.1 < 18446744073709551616) && decide (x.2 < 18446744073709551616)) = true := by decide +kernel
theorem row_ok (p : Int) (h1 : -348 ≤ p) (h2 : p ≤ 347) : 9223372036854775808 ≤ (row10 p).1 ∧ (row10 p).1 < 18446744073709551616 ∧ (row10 p).2 < 18446744073709551616 := by
  have h := rows_ok
  rw [Bool.and_eq_true, beq_iff_eq] at h
  have hl : (p + 348).toNat < Go.Pinned.pow10Rows.length := by rw [h.1]; omega
  have e : row10 p = Go.Pinned.pow10Rows[(p + 348).toNat] := by
    unfold row10
    rw [List.getD_eq_getElem?_getD, List.getElem?_eq_getElem hl]
    rfl
  have := List.all_eq_true.1 h.2 _ (List.getElem_mem hl)
  rw [← e] at this
  simp only [Bool.and_eq_true, decide_eq_true_eq] at this
  exact ⟨this.1.1, this.1.2, this.2⟩

/-- The product's size. -/
theorem usc_lt {hi lo s x : Nat} (hs : 5 ≤ s) (hx : x < 18446744073709551616) (hhi : hi < 18446744073709551616) : usc hi lo s x < 4611686018427387904 := by
  have hl : x * hi / 18446744073709551616 < 18446744073709551616 := by
    apply Nat.div_lt_of_lt_mul
    exact Nat.mul_lt_mul_of_lt_of_lt hx hhi
  have hp : 2 ^ 5 ≤ 2 ^ s := Nat.pow_le_pow_right (by omega) hs
  have hd : ∀ n, n < 18446744073709551616 → n / 2 ^ s < 576460752303423488 := fun n hn => by
    apply Nat.div_lt_of_lt_mul
    calc n < 2 ^ 5 * 576460752303423488 := by omega
      _ ≤ 2 ^ s * 576460752303423488 := Nat.mul_le_mul_right _ hp
  have ho : ∀ n b, n < 576460752303423488 → b ≤ 1 → n ||| b < 4611686018427387904 := fun n b hn hb => by
    have : n ||| b < 2 ^ 62 := Nat.or_lt_two_pow (by omega) (by omega)
    omega
  unfold usc
  split
  · exact ho _ _ (hd _ hl) (Nat.le_refl _)
  · refine ho _ _ (hd _ ?_) (by split <;> omega)
    split <;> omega

theorem zero96 (w : World) : (zeroValue 96).run Tryz.prog w = .ok (.agg #[.int .u64 0, .int .u64 0, .int .i64 0]) w := by kernel_rfl

/-- The product is not 0. -/
theorem usc_pos {hi lo s x : Nat} (hs : s < 60) (hx : 4611686018427387904 ≤ x) (hhi : 9223372036854775808 ≤ hi) : 0 < usc hi lo s x := by
  have hl : 2305843009213693952 ≤ x * hi / 18446744073709551616 := by
    rw [Nat.le_div_iff_mul_le (by decide)]
    calc 2305843009213693952 * 18446744073709551616 = 4611686018427387904 * 9223372036854775808 := by decide
      _ ≤ x * hi := Nat.mul_le_mul hx hhi
  have hp : 2 ^ s ≤ 2 ^ 59 := Nat.pow_le_pow_right (by omega) (by omega)
  have hd : ∀ n, 2305843009213693951 ≤ n → 0 < n / 2 ^ s := fun n hn => Nat.div_pos (by
    have : (2 : Nat) ^ 59 = 576460752303423488 := by decide
    omega) (Nat.pow_pos (by omega))
  have ho : ∀ n b : Nat, 0 < n → 0 < n ||| b := fun n b hn => Nat.lt_of_lt_of_le hn Nat.left_le_or
  unfold usc
  split
  · exact ho _ _ (hd _ (by omega))
  · exact ho _ _ (hd _ (by split <;> omega))

set_option maxRecDepth 100000 in
set_option maxHeartbeats 8000000 in
theorem shortB0 (M : Nat) (e p : Int) (hM1 : 4503599627370496 ≤ M) (hM2 : M < 9007199254740992) (he1 : -1085 ≤ e) (he2 : e ≤ 971) (hM0 : M * 2048 ≠ 9223372036854775808) (hodd : M % 2 = 0) (hp : p = -Own.l10 (e + 11)) (hp1 : -307 ≤ p) (hp2 : p ≤ 324) (hs1 : 5 ≤ -(e + l2 p + 3)) (hs2 : -(e + l2 p + 3) < 60) (hlr : -2000 ≤ l2 p ∧ l2 p ≤ 2000) (w : World) (ht : Tens w) :
    Calls Tryz.prog 52 #[.int .u64 ((M : Int) * 2048), .int .i64 e] w fun e' w' => e' = .returned (.tuple #[.int .u64 ((ans (shortOf (usc (row10 p).1 (row10 p).2 (sh e p) (M * 2048 - 1024)) (usc (row10 p).1 (row10 p).2 (sh e p) (M * 2048 + 1024)) (usc (row10 p).1 (row10 p).2 (sh e p) (M * 2048)) 0) p).1 : Int), .int .i64 (ans (shortOf (usc (row10 p).1 (row10 p).2 (sh e p) (M * 2048 - 1024)) (usc (row10 p).1 (row10 p).2 (sh e p) (M * 2048 + 1024)) (usc (row10 p).1 (row10 p).2 (sh e p) (M * 2048)) 0) p).2]) ∧ Below w.heap.size w w' := by
  obtain ⟨R1, R2, R3⟩ := row_ok p (by omega) (by omega)
  have hsh : ((sh e p : Nat) : Int) = -(e + l2 p + 3) := by unfold sh; omega
  have hs5 : 5 ≤ sh e p := by omega
  have hs60 : sh e p < 60 := by omega
  have hs64 : sh e p < 64 := by omega
  have PS := Aside0.mk (fun w g a b c ht hg hg7 => prescale_any e p (l2 p) w g a b c ht hg hg7 (by omega) (by omega) (by omega) (by omega))
  have L2 := Aside0.mk (l2_any p (by omega))
  rw [← hsh] at PS
  have hpos : ∀ x, 2 ≤ x → 0 < x * (row10 p).1 / 18446744073709551616 := fun x hx => by
    apply Nat.div_pos _ (by decide)
    calc 18446744073709551616 = 2 * 9223372036854775808 := by decide
      _ ≤ x * (row10 p).1 := Nat.mul_le_mul hx R1
  have US := Aside0.mk (fun x g w (h2 : 2 ≤ x) (hx : x < 18446744073709551616) hg => uscale_any (row10 p).1 (row10 p).2 (sh e p) x g w R2 R3 hs64 hx (hpos x h2) hg)
  have UL := Aside0.mk (fun x (hx : x < 18446744073709551616) => usc_lt (lo := (row10 p).2) hs5 hx R2)
  have UP := Aside0.mk (fun x (hx : 4611686018427387904 ≤ x) => usc_pos (lo := (row10 p).2) hs60 hx R1)
  have HT := Aside0.mk ht
  clear hpos R1 R2 R3 hsh hs5 hs64 hs60 ht
  generalize hr1 : (row10 p).1 = r1 at *
  generalize hr2 : (row10 p).2 = r2 at *
  generalize hsv : sh e p = sv at *
  obtain ⟨U1, hU1⟩ : ∃ U, usc r1 r2 sv (M * 2048 - 1024) = U := ⟨_, rfl⟩
  have UA1 := Aside0.mk (fun g w hg => hU1 ▸ US.out (M * 2048 - 1024) g w (by omega) (by omega) hg)
  have u1 := hU1 ▸ UL.out (M * 2048 - 1024) (by omega)
  obtain ⟨U2, hU2⟩ : ∃ U, usc r1 r2 sv (M * 2048 + 1024) = U := ⟨_, rfl⟩
  have UA2 := Aside0.mk (fun g w hg => hU2 ▸ US.out (M * 2048 + 1024) g w (by omega) (by omega) hg)
  have u2 := hU2 ▸ UL.out (M * 2048 + 1024) (by omega)
  obtain ⟨U3, hU3⟩ : ∃ U, usc r1 r2 sv (M * 2048) = U := ⟨_, rfl⟩
  have UA3 := Aside0.mk (fun g w hg => hU3 ▸ US.out (M * 2048) g w (by omega) (by omega) hg)
  have u3 := hU3 ▸ UL.out (M * 2048) (by omega)
  have up2 := hU2 ▸ UP.out (M * 2048 + 1024) (by omega)
  rw [hU1, hU2, hU3]
  have c1 : ((M * 2048 - 1024 : Nat) : Int) = (M : Int) * 2048 - 1024 := by omega
  rw [c1] at UA1
  have c2 : ((M * 2048 + 1024 : Nat) : Int) = (M : Int) * 2048 + 1024 := by omega
  rw [c2] at UA2
  have c3 : ((M * 2048 : Nat) : Int) = (M : Int) * 2048 := by omega
  rw [c3] at UA3
  have cne : (((M : Int) * 2048 == 9223372036854775808) : Bool) = false := beq_eq_false_iff_ne.2 (by omega)
  have csh : (M : Int) * 2048 / 2048 = (M : Int) := by omega
  have hpp : -Own.l10 (e + 11) = p := hp.symm
  have L10 := Aside0.mk (l10_any (e + 11) (by omega))
  have hand : bits .and .i64 (M : Int) 1 = 0 := by
    have h := (bits_nat .i64 53 (by decide) (fun n h0 h1 => by rw [IntKind.wrap_i64]; omega) M 1 (by omega) (by omega)).1
    have h' : bits .and .i64 (M : Int) 1 = ((M &&& 1 : Nat) : Int) := h
    rw [h', Nat.and_one_is_mod, hodd]
    rfl
  have N1 := Aside0.mk (nudge_0 U1 (by omega))
  have N2 := Aside0.mk (nudge_0 U2 (by omega))
  have C1 := Aside0.mk (ceil_any U1 (by omega))
  have F2 := Aside0.mk (floor_any U2 (by omega))
  have R3 := Aside0.mk (round_any U3 (by omega))
  have hz := zero96
  have BX := Aside0.mk (heap_alloc_new w (.cells #[.int .u64 0, .int .u64 0, .int .i64 0] 96))
  have HB : Aside0 (Below w.heap.size w (w.alloc (.cells #[.int .u64 0, .int .u64 0, .int .i64 0] 96))) := ⟨(Below.refl _ _).alloc (Nat.le_refl _) _⟩
  have n7 : Aside0 (w.heap.size ≠ 7) := ⟨Nat.ne_of_gt HT.out.big⟩
  clear hU1 hU2 hU3 hr1 hr2 hsv UL US UP c1 c2 c3 hM0 hp hodd
  go_enter Tryz.func52, Tryz.ntmps52
  go_wp2_with (first
    | (go_at_call 47; with_reducible refine (L10.out _).mono ?_; rintro e' w' ⟨rfl, rfl⟩)
    | (go_at_call 61; with_reducible refine (L10.out _).mono ?_; rintro e' w' ⟨rfl, rfl⟩)
    | (go_at_call 63; with_reducible refine (L2.out _).mono ?_; rintro e' w' ⟨rfl, rfl⟩)
    | (go_at_call 62; with_reducible refine (PS.out _ _ _ _ _ (HT.out.below HB.out) BX.out n7.out).mono ?_; rintro e' w2 ⟨rfl, hb, hsz2, hg⟩; have BX2 := Aside0.mk hg; have HB2 := Aside0.mk (HB.out.trans hb); clear hb hsz2 hg)
    | (go_at_call 64; with_reducible refine (UA1.out _ _ BX2.out).mono ?_; rintro e' w3 ⟨rfl, hb⟩; have BX3 := Aside0.mk ((hb.block _ (Array.getElem?_eq_some_iff.1 BX2.out).1).trans BX2.out); have HB3 := Aside0.mk (HB2.out.trans (hb.mono HB2.out.size)); clear hb)
    | (go_at_call 64; with_reducible refine (UA2.out _ _ BX3.out).mono ?_; rintro e' w4 ⟨rfl, hb⟩; have BX4 := Aside0.mk ((hb.block _ (Array.getElem?_eq_some_iff.1 BX3.out).1).trans BX3.out); have HB4 := Aside0.mk (HB3.out.trans (hb.mono HB3.out.size)); clear hb)
    | (go_at_call 64; with_reducible refine (UA3.out _ _ BX4.out).mono ?_; rintro e' w5 ⟨rfl, hb⟩; have HB5 := Aside0.mk (HB4.out.trans (hb.mono HB4.out.size)); clear hb)
    | (go_at_call 65; with_reducible refine (N1.out _).mono ?_; rintro e' w' ⟨rfl, rfl⟩)
    | (go_at_call 65; with_reducible refine (N2.out _).mono ?_; rintro e' w' ⟨rfl, rfl⟩)
    | (go_at_call 66; with_reducible refine (C1.out _).mono ?_; rintro e' w' ⟨rfl, rfl⟩)
    | (go_at_call 67; with_reducible refine (F2.out _).mono ?_; rintro e' w' ⟨rfl, rfl⟩)
    | (go_at_call 68; with_reducible refine (R3.out _).mono ?_; rintro e' w' ⟨rfl, rfl⟩))
  · rename_i h
    have hs : shortOf U1 U2 U3 0 = (U2 / 4 / 10, true) := by
      unfold shortOf
      rw [if_pos (by omega)]
      congr 1 <;> omega
    rw [hs]
    go_ret2
    refine ⟨?_, HB4.out⟩
    show Ending.returned (Value.tuple #[.int .u64 ((U2 : Int) / 4 / 10), .int .i64 (-(p - 1))]) = Ending.returned (.tuple #[.int .u64 ((U2 / 4 / 10 : Nat) : Int), .int .i64 (-p + 1)])
    rw [show -(p - 1) = -p + 1 by omega]
    rfl
  · rename_i h h2
    have hs : shortOf U1 U2 U3 0 = (rnd U3, false) := by
      unfold shortOf
      rw [if_neg (by omega), if_pos (by omega)]
    rw [hs]
    go_ret2
    exact ⟨rfl, HB5.out⟩
  · rename_i h h2
    have hs : shortOf U1 U2 U3 0 = ((U1 + 3) / 4, false) := by
      unfold shortOf
      rw [if_neg (by omega), if_neg (by omega)]
    rw [hs]
    go_ret2
    exact ⟨rfl, HB4.out⟩

set_option maxRecDepth 100000 in
set_option maxHeartbeats 8000000 in
theorem shortB1 (M : Nat) (e p : Int) (hM1 : 4503599627370496 ≤ M) (hM2 : M < 9007199254740992) (he1 : -1085 ≤ e) (he2 : e ≤ 971) (hodd : M % 2 = 1) (hp : p = -Own.l10 (e + 11)) (hp1 : -307 ≤ p) (hp2 : p ≤ 324) (hs1 : 5 ≤ -(e + l2 p + 3)) (hs2 : -(e + l2 p + 3) < 60) (hlr : -2000 ≤ l2 p ∧ l2 p ≤ 2000) (w : World) (ht : Tens w) :
    Calls Tryz.prog 52 #[.int .u64 ((M : Int) * 2048), .int .i64 e] w fun e' w' => e' = .returned (.tuple #[.int .u64 ((ans (shortOf (usc (row10 p).1 (row10 p).2 (sh e p) (M * 2048 - 1024)) (usc (row10 p).1 (row10 p).2 (sh e p) (M * 2048 + 1024)) (usc (row10 p).1 (row10 p).2 (sh e p) (M * 2048)) 1) p).1 : Int), .int .i64 (ans (shortOf (usc (row10 p).1 (row10 p).2 (sh e p) (M * 2048 - 1024)) (usc (row10 p).1 (row10 p).2 (sh e p) (M * 2048 + 1024)) (usc (row10 p).1 (row10 p).2 (sh e p) (M * 2048)) 1) p).2]) ∧ Below w.heap.size w w' := by
  obtain ⟨R1, R2, R3⟩ := row_ok p (by omega) (by omega)
  have hsh : ((sh e p : Nat) : Int) = -(e + l2 p + 3) := by unfold sh; omega
  have hs5 : 5 ≤ sh e p := by omega
  have hs60 : sh e p < 60 := by omega
  have hs64 : sh e p < 64 := by omega
  have PS := Aside0.mk (fun w g a b c ht hg hg7 => prescale_any e p (l2 p) w g a b c ht hg hg7 (by omega) (by omega) (by omega) (by omega))
  have L2 := Aside0.mk (l2_any p (by omega))
  rw [← hsh] at PS
  have hpos : ∀ x, 2 ≤ x → 0 < x * (row10 p).1 / 18446744073709551616 := fun x hx => by
    apply Nat.div_pos _ (by decide)
    calc 18446744073709551616 = 2 * 9223372036854775808 := by decide
      _ ≤ x * (row10 p).1 := Nat.mul_le_mul hx R1
  have US := Aside0.mk (fun x g w (h2 : 2 ≤ x) (hx : x < 18446744073709551616) hg => uscale_any (row10 p).1 (row10 p).2 (sh e p) x g w R2 R3 hs64 hx (hpos x h2) hg)
  have UL := Aside0.mk (fun x (hx : x < 18446744073709551616) => usc_lt (lo := (row10 p).2) hs5 hx R2)
  have UP := Aside0.mk (fun x (hx : 4611686018427387904 ≤ x) => usc_pos (lo := (row10 p).2) hs60 hx R1)
  have HT := Aside0.mk ht
  clear hpos R1 R2 R3 hsh hs5 hs64 hs60 ht
  generalize hr1 : (row10 p).1 = r1 at *
  generalize hr2 : (row10 p).2 = r2 at *
  generalize hsv : sh e p = sv at *
  obtain ⟨U1, hU1⟩ : ∃ U, usc r1 r2 sv (M * 2048 - 1024) = U := ⟨_, rfl⟩
  have UA1 := Aside0.mk (fun g w hg => hU1 ▸ US.out (M * 2048 - 1024) g w (by omega) (by omega) hg)
  have u1 := hU1 ▸ UL.out (M * 2048 - 1024) (by omega)
  obtain ⟨U2, hU2⟩ : ∃ U, usc r1 r2 sv (M * 2048 + 1024) = U := ⟨_, rfl⟩
  have UA2 := Aside0.mk (fun g w hg => hU2 ▸ US.out (M * 2048 + 1024) g w (by omega) (by omega) hg)
  have u2 := hU2 ▸ UL.out (M * 2048 + 1024) (by omega)
  obtain ⟨U3, hU3⟩ : ∃ U, usc r1 r2 sv (M * 2048) = U := ⟨_, rfl⟩
  have UA3 := Aside0.mk (fun g w hg => hU3 ▸ US.out (M * 2048) g w (by omega) (by omega) hg)
  have u3 := hU3 ▸ UL.out (M * 2048) (by omega)
  have up2 := hU2 ▸ UP.out (M * 2048 + 1024) (by omega)
  rw [hU1, hU2, hU3]
  have c1 : ((M * 2048 - 1024 : Nat) : Int) = (M : Int) * 2048 - 1024 := by omega
  rw [c1] at UA1
  have c2 : ((M * 2048 + 1024 : Nat) : Int) = (M : Int) * 2048 + 1024 := by omega
  rw [c2] at UA2
  have c3 : ((M * 2048 : Nat) : Int) = (M : Int) * 2048 := by omega
  rw [c3] at UA3
  have cne : (((M : Int) * 2048 == 9223372036854775808) : Bool) = false := beq_eq_false_iff_ne.2 (by omega)
  have csh : (M : Int) * 2048 / 2048 = (M : Int) := by omega
  have hpp : -Own.l10 (e + 11) = p := hp.symm
  have L10 := Aside0.mk (l10_any (e + 11) (by omega))
  have hand : bits .and .i64 (M : Int) 1 = 1 := by
    have h := (bits_nat .i64 53 (by decide) (fun n h0 h1 => by rw [IntKind.wrap_i64]; omega) M 1 (by omega) (by omega)).1
    have h' : bits .and .i64 (M : Int) 1 = ((M &&& 1 : Nat) : Int) := h
    rw [h', Nat.and_one_is_mod, hodd]
    rfl
  have N1 := Aside0.mk (nudge_1 U1 (by omega))
  have N2 := Aside0.mk (nudge_m U2 (by omega) up2)
  have C1 := Aside0.mk (ceil_any (U1 + 1) (by omega))
  have F2 := Aside0.mk (floor_any (U2 - 1) (by omega))
  have R3 := Aside0.mk (round_any U3 (by omega))
  obtain ⟨V1, hV1⟩ : ∃ V, U1 + 1 = V := ⟨_, rfl⟩
  obtain ⟨V2, hV2⟩ : ∃ V, U2 - 1 = V := ⟨_, rfl⟩
  rw [hV1] at N1 C1
  rw [hV2] at N2 F2
  have HV := Aside0.mk (And.intro hV1 hV2)
  have v1 : V1 < 9223372036854775808 := by omega
  have v2 : V2 < 9223372036854775808 := by omega
  clear hV1 hV2
  have hz := zero96
  have BX := Aside0.mk (heap_alloc_new w (.cells #[.int .u64 0, .int .u64 0, .int .i64 0] 96))
  have HB : Aside0 (Below w.heap.size w (w.alloc (.cells #[.int .u64 0, .int .u64 0, .int .i64 0] 96))) := ⟨(Below.refl _ _).alloc (Nat.le_refl _) _⟩
  have n7 : Aside0 (w.heap.size ≠ 7) := ⟨Nat.ne_of_gt HT.out.big⟩
  clear hU1 hU2 hU3 hr1 hr2 hsv UL US UP c1 c2 c3 hp hodd
  go_enter Tryz.func52, Tryz.ntmps52
  go_wp2_with (first
    | (go_at_call 47; with_reducible refine (L10.out _).mono ?_; rintro e' w' ⟨rfl, rfl⟩)
    | (go_at_call 61; with_reducible refine (L10.out _).mono ?_; rintro e' w' ⟨rfl, rfl⟩)
    | (go_at_call 63; with_reducible refine (L2.out _).mono ?_; rintro e' w' ⟨rfl, rfl⟩)
    | (go_at_call 62; with_reducible refine (PS.out _ _ _ _ _ (HT.out.below HB.out) BX.out n7.out).mono ?_; rintro e' w2 ⟨rfl, hb, hsz2, hg⟩; have BX2 := Aside0.mk hg; have HB2 := Aside0.mk (HB.out.trans hb); clear hb hsz2 hg)
    | (go_at_call 64; with_reducible refine (UA1.out _ _ BX2.out).mono ?_; rintro e' w3 ⟨rfl, hb⟩; have BX3 := Aside0.mk ((hb.block _ (Array.getElem?_eq_some_iff.1 BX2.out).1).trans BX2.out); have HB3 := Aside0.mk (HB2.out.trans (hb.mono HB2.out.size)); clear hb)
    | (go_at_call 64; with_reducible refine (UA2.out _ _ BX3.out).mono ?_; rintro e' w4 ⟨rfl, hb⟩; have BX4 := Aside0.mk ((hb.block _ (Array.getElem?_eq_some_iff.1 BX3.out).1).trans BX3.out); have HB4 := Aside0.mk (HB3.out.trans (hb.mono HB3.out.size)); clear hb)
    | (go_at_call 64; with_reducible refine (UA3.out _ _ BX4.out).mono ?_; rintro e' w5 ⟨rfl, hb⟩; have HB5 := Aside0.mk (HB4.out.trans (hb.mono HB4.out.size)); clear hb)
    | (go_at_call 65; with_reducible refine (N1.out _).mono ?_; rintro e' w' ⟨rfl, rfl⟩)
    | (go_at_call 65; with_reducible refine (N2.out _).mono ?_; rintro e' w' ⟨rfl, rfl⟩)
    | (go_at_call 66; with_reducible refine (C1.out _).mono ?_; rintro e' w' ⟨rfl, rfl⟩)
    | (go_at_call 67; with_reducible refine (F2.out _).mono ?_; rintro e' w' ⟨rfl, rfl⟩)
    | (go_at_call 68; with_reducible refine (R3.out _).mono ?_; rintro e' w' ⟨rfl, rfl⟩))
  · rename_i h
    obtain ⟨g1, g2⟩ := HV.out
    have hs : shortOf U1 U2 U3 1 = (V2 / 4 / 10, true) := by
      unfold shortOf
      rw [if_pos (by omega)]
      congr 1 <;> omega
    rw [hs]
    go_ret2
    refine ⟨?_, HB4.out⟩
    show Ending.returned (Value.tuple #[.int .u64 ((V2 : Int) / 4 / 10), .int .i64 (-(p - 1))]) = Ending.returned (.tuple #[.int .u64 ((V2 / 4 / 10 : Nat) : Int), .int .i64 (-p + 1)])
    rw [show -(p - 1) = -p + 1 by omega]
    rfl
  · rename_i h h2
    obtain ⟨g1, g2⟩ := HV.out
    have hs : shortOf U1 U2 U3 1 = (rnd U3, false) := by
      unfold shortOf
      rw [if_neg (by omega), if_pos (by omega)]
    rw [hs]
    go_ret2
    exact ⟨rfl, HB5.out⟩
  · rename_i h h2
    obtain ⟨g1, g2⟩ := HV.out
    have hs : shortOf U1 U2 U3 1 = ((V1 + 3) / 4, false) := by
      unfold shortOf
      rw [if_neg (by omega), if_neg (by omega)]
      congr 1 <;> omega
    rw [hs]
    go_ret2
    exact ⟨rfl, HB4.out⟩

set_option maxRecDepth 100000 in
set_option maxHeartbeats 8000000 in
theorem shortA (e p : Int) (he1 : -1085 < e) (he2 : e ≤ 971) (hp : p = -Own.skw (e + 11)) (hp1 : -307 ≤ p) (hp2 : p ≤ 324) (hs1 : 5 ≤ -(e + l2 p + 3)) (hs2 : -(e + l2 p + 3) < 60) (hlr : -2000 ≤ l2 p ∧ l2 p ≤ 2000) (w : World) (ht : Tens w) :
    Calls Tryz.prog 52 #[.int .u64 9223372036854775808, .int .i64 e] w fun e' w' => e' = .returned (.tuple #[.int .u64 ((ans (shortOf (usc (row10 p).1 (row10 p).2 (sh e p) (9223372036854775296)) (usc (row10 p).1 (row10 p).2 (sh e p) (9223372036854776832)) (usc (row10 p).1 (row10 p).2 (sh e p) (9223372036854775808)) 0) p).1 : Int), .int .i64 (ans (shortOf (usc (row10 p).1 (row10 p).2 (sh e p) (9223372036854775296)) (usc (row10 p).1 (row10 p).2 (sh e p) (9223372036854776832)) (usc (row10 p).1 (row10 p).2 (sh e p) (9223372036854775808)) 0) p).2]) ∧ Below w.heap.size w w' := by
  obtain ⟨R1, R2, R3⟩ := row_ok p (by omega) (by omega)
  have hsh : ((sh e p : Nat) : Int) = -(e + l2 p + 3) := by unfold sh; omega
  have hs5 : 5 ≤ sh e p := by omega
  have hs60 : sh e p < 60 := by omega
  have hs64 : sh e p < 64 := by omega
  have PS := Aside0.mk (fun w g a b c ht hg hg7 => prescale_any e p (l2 p) w g a b c ht hg hg7 (by omega) (by omega) (by omega) (by omega))
  have L2 := Aside0.mk (l2_any p (by omega))
  rw [← hsh] at PS
  have hpos : ∀ x, 2 ≤ x → 0 < x * (row10 p).1 / 18446744073709551616 := fun x hx => by
    apply Nat.div_pos _ (by decide)
    calc 18446744073709551616 = 2 * 9223372036854775808 := by decide
      _ ≤ x * (row10 p).1 := Nat.mul_le_mul hx R1
  have US := Aside0.mk (fun x g w (h2 : 2 ≤ x) (hx : x < 18446744073709551616) hg => uscale_any (row10 p).1 (row10 p).2 (sh e p) x g w R2 R3 hs64 hx (hpos x h2) hg)
  have UL := Aside0.mk (fun x (hx : x < 18446744073709551616) => usc_lt (lo := (row10 p).2) hs5 hx R2)
  have UP := Aside0.mk (fun x (hx : 4611686018427387904 ≤ x) => usc_pos (lo := (row10 p).2) hs60 hx R1)
  have HT := Aside0.mk ht
  clear hpos R1 R2 R3 hsh hs5 hs64 hs60 ht
  generalize hr1 : (row10 p).1 = r1 at *
  generalize hr2 : (row10 p).2 = r2 at *
  generalize hsv : sh e p = sv at *
  obtain ⟨U1, hU1⟩ : ∃ U, usc r1 r2 sv (9223372036854775296) = U := ⟨_, rfl⟩
  have UA1 := Aside0.mk (fun g w hg => hU1 ▸ US.out (9223372036854775296) g w (by omega) (by omega) hg)
  have u1 := hU1 ▸ UL.out (9223372036854775296) (by omega)
  obtain ⟨U2, hU2⟩ : ∃ U, usc r1 r2 sv (9223372036854776832) = U := ⟨_, rfl⟩
  have UA2 := Aside0.mk (fun g w hg => hU2 ▸ US.out (9223372036854776832) g w (by omega) (by omega) hg)
  have u2 := hU2 ▸ UL.out (9223372036854776832) (by omega)
  obtain ⟨U3, hU3⟩ : ∃ U, usc r1 r2 sv (9223372036854775808) = U := ⟨_, rfl⟩
  have UA3 := Aside0.mk (fun g w hg => hU3 ▸ US.out (9223372036854775808) g w (by omega) (by omega) hg)
  have u3 := hU3 ▸ UL.out (9223372036854775808) (by omega)
  have up2 := hU2 ▸ UP.out (9223372036854776832) (by omega)
  rw [hU1, hU2, hU3]
  have c1 : ((9223372036854775296 : Nat) : Int) = 9223372036854775296 := by omega
  rw [c1] at UA1
  have c2 : ((9223372036854776832 : Nat) : Int) = 9223372036854776832 := by omega
  rw [c2] at UA2
  have c3 : ((9223372036854775808 : Nat) : Int) = 9223372036854775808 := by omega
  rw [c3] at UA3
  have hpp : -Own.skw (e + 11) = p := hp.symm
  have L10 := Aside0.mk (skewed_any (e + 11) (by omega))
  have hand : bits .and .i64 4503599627370496 1 = 0 := by decide +kernel
  have N1 := Aside0.mk (nudge_0 U1 (by omega))
  have N2 := Aside0.mk (nudge_0 U2 (by omega))
  have C1 := Aside0.mk (ceil_any U1 (by omega))
  have F2 := Aside0.mk (floor_any U2 (by omega))
  have R3 := Aside0.mk (round_any U3 (by omega))
  have hz := zero96
  have BX := Aside0.mk (heap_alloc_new w (.cells #[.int .u64 0, .int .u64 0, .int .i64 0] 96))
  have HB : Aside0 (Below w.heap.size w (w.alloc (.cells #[.int .u64 0, .int .u64 0, .int .i64 0] 96))) := ⟨(Below.refl _ _).alloc (Nat.le_refl _) _⟩
  have n7 : Aside0 (w.heap.size ≠ 7) := ⟨Nat.ne_of_gt HT.out.big⟩
  clear hU1 hU2 hU3 hr1 hr2 hsv UL US UP c1 c2 c3 hp
  go_enter Tryz.func52, Tryz.ntmps52
  go_wp2_with (first
    | (go_at_call 47; with_reducible refine (L10.out _).mono ?_; rintro e' w' ⟨rfl, rfl⟩)
    | (go_at_call 61; with_reducible refine (L10.out _).mono ?_; rintro e' w' ⟨rfl, rfl⟩)
    | (go_at_call 63; with_reducible refine (L2.out _).mono ?_; rintro e' w' ⟨rfl, rfl⟩)
    | (go_at_call 62; with_reducible refine (PS.out _ _ _ _ _ (HT.out.below HB.out) BX.out n7.out).mono ?_; rintro e' w2 ⟨rfl, hb, hsz2, hg⟩; have BX2 := Aside0.mk hg; have HB2 := Aside0.mk (HB.out.trans hb); clear hb hsz2 hg)
    | (go_at_call 64; with_reducible refine (UA1.out _ _ BX2.out).mono ?_; rintro e' w3 ⟨rfl, hb⟩; have BX3 := Aside0.mk ((hb.block _ (Array.getElem?_eq_some_iff.1 BX2.out).1).trans BX2.out); have HB3 := Aside0.mk (HB2.out.trans (hb.mono HB2.out.size)); clear hb)
    | (go_at_call 64; with_reducible refine (UA2.out _ _ BX3.out).mono ?_; rintro e' w4 ⟨rfl, hb⟩; have BX4 := Aside0.mk ((hb.block _ (Array.getElem?_eq_some_iff.1 BX3.out).1).trans BX3.out); have HB4 := Aside0.mk (HB3.out.trans (hb.mono HB3.out.size)); clear hb)
    | (go_at_call 64; with_reducible refine (UA3.out _ _ BX4.out).mono ?_; rintro e' w5 ⟨rfl, hb⟩; have HB5 := Aside0.mk (HB4.out.trans (hb.mono HB4.out.size)); clear hb)
    | (go_at_call 65; with_reducible refine (N1.out _).mono ?_; rintro e' w' ⟨rfl, rfl⟩)
    | (go_at_call 65; with_reducible refine (N2.out _).mono ?_; rintro e' w' ⟨rfl, rfl⟩)
    | (go_at_call 66; with_reducible refine (C1.out _).mono ?_; rintro e' w' ⟨rfl, rfl⟩)
    | (go_at_call 67; with_reducible refine (F2.out _).mono ?_; rintro e' w' ⟨rfl, rfl⟩)
    | (go_at_call 68; with_reducible refine (R3.out _).mono ?_; rintro e' w' ⟨rfl, rfl⟩))
  · rename_i h
    have hs : shortOf U1 U2 U3 0 = (U2 / 4 / 10, true) := by
      unfold shortOf
      rw [if_pos (by omega)]
      congr 1 <;> omega
    rw [hs]
    go_ret2
    refine ⟨?_, HB4.out⟩
    show Ending.returned (Value.tuple #[.int .u64 ((U2 : Int) / 4 / 10), .int .i64 (-(p - 1))]) = Ending.returned (.tuple #[.int .u64 ((U2 / 4 / 10 : Nat) : Int), .int .i64 (-p + 1)])
    rw [show -(p - 1) = -p + 1 by omega]
    rfl
  · rename_i h h2
    have hs : shortOf U1 U2 U3 0 = (rnd U3, false) := by
      unfold shortOf
      rw [if_neg (by omega), if_pos (by omega)]
    rw [hs]
    go_ret2
    exact ⟨rfl, HB5.out⟩
  · rename_i h h2
    have hs : shortOf U1 U2 U3 0 = ((U1 + 3) / 4, false) := by
      unfold shortOf
      rw [if_neg (by omega), if_neg (by omega)]
    rw [hs]
    go_ret2
    exact ⟨rfl, HB4.out⟩

set_option maxRecDepth 100000 in
set_option maxHeartbeats 8000000 in
theorem shortL (e p : Int) (he : e = -1085) (hp : p = -Own.l10 (e + 11)) (hp1 : -307 ≤ p) (hp2 : p ≤ 324) (hs1 : 5 ≤ -(e + l2 p + 3)) (hs2 : -(e + l2 p + 3) < 60) (hlr : -2000 ≤ l2 p ∧ l2 p ≤ 2000) (w : World) (ht : Tens w) :
    Calls Tryz.prog 52 #[.int .u64 9223372036854775808, .int .i64 e] w fun e' w' => e' = .returned (.tuple #[.int .u64 ((ans (shortOf (usc (row10 p).1 (row10 p).2 (sh e p) (9223372036854774784)) (usc (row10 p).1 (row10 p).2 (sh e p) (9223372036854776832)) (usc (row10 p).1 (row10 p).2 (sh e p) (9223372036854775808)) 0) p).1 : Int), .int .i64 (ans (shortOf (usc (row10 p).1 (row10 p).2 (sh e p) (9223372036854774784)) (usc (row10 p).1 (row10 p).2 (sh e p) (9223372036854776832)) (usc (row10 p).1 (row10 p).2 (sh e p) (9223372036854775808)) 0) p).2]) ∧ Below w.heap.size w w' := by
  obtain ⟨R1, R2, R3⟩ := row_ok p (by omega) (by omega)
  have hsh : ((sh e p : Nat) : Int) = -(e + l2 p + 3) := by unfold sh; omega
  have hs5 : 5 ≤ sh e p := by omega
  have hs60 : sh e p < 60 := by omega
  have hs64 : sh e p < 64 := by omega
  have PS := Aside0.mk (fun w g a b c ht hg hg7 => prescale_any e p (l2 p) w g a b c ht hg hg7 (by omega) (by omega) (by omega) (by omega))
  have L2 := Aside0.mk (l2_any p (by omega))
  rw [← hsh] at PS
  have hpos : ∀ x, 2 ≤ x → 0 < x * (row10 p).1 / 18446744073709551616 := fun x hx => by
    apply Nat.div_pos _ (by decide)
    calc 18446744073709551616 = 2 * 9223372036854775808 := by decide
      _ ≤ x * (row10 p).1 := Nat.mul_le_mul hx R1
  have US := Aside0.mk (fun x g w (h2 : 2 ≤ x) (hx : x < 18446744073709551616) hg => uscale_any (row10 p).1 (row10 p).2 (sh e p) x g w R2 R3 hs64 hx (hpos x h2) hg)
  have UL := Aside0.mk (fun x (hx : x < 18446744073709551616) => usc_lt (lo := (row10 p).2) hs5 hx R2)
  have UP := Aside0.mk (fun x (hx : 4611686018427387904 ≤ x) => usc_pos (lo := (row10 p).2) hs60 hx R1)
  have HT := Aside0.mk ht
  clear hpos R1 R2 R3 hsh hs5 hs64 hs60 ht
  generalize hr1 : (row10 p).1 = r1 at *
  generalize hr2 : (row10 p).2 = r2 at *
  generalize hsv : sh e p = sv at *
  obtain ⟨U1, hU1⟩ : ∃ U, usc r1 r2 sv (9223372036854774784) = U := ⟨_, rfl⟩
  have UA1 := Aside0.mk (fun g w hg => hU1 ▸ US.out (9223372036854774784) g w (by omega) (by omega) hg)
  have u1 := hU1 ▸ UL.out (9223372036854774784) (by omega)
  obtain ⟨U2, hU2⟩ : ∃ U, usc r1 r2 sv (9223372036854776832) = U := ⟨_, rfl⟩
  have UA2 := Aside0.mk (fun g w hg => hU2 ▸ US.out (9223372036854776832) g w (by omega) (by omega) hg)
  have u2 := hU2 ▸ UL.out (9223372036854776832) (by omega)
  obtain ⟨U3, hU3⟩ : ∃ U, usc r1 r2 sv (9223372036854775808) = U := ⟨_, rfl⟩
  have UA3 := Aside0.mk (fun g w hg => hU3 ▸ US.out (9223372036854775808) g w (by omega) (by omega) hg)
  have u3 := hU3 ▸ UL.out (9223372036854775808) (by omega)
  have up2 := hU2 ▸ UP.out (9223372036854776832) (by omega)
  rw [hU1, hU2, hU3]
  have c1 : ((9223372036854774784 : Nat) : Int) = 9223372036854774784 := by omega
  rw [c1] at UA1
  have c2 : ((9223372036854776832 : Nat) : Int) = 9223372036854776832 := by omega
  rw [c2] at UA2
  have c3 : ((9223372036854775808 : Nat) : Int) = 9223372036854775808 := by omega
  rw [c3] at UA3
  have hpp : -Own.l10 (-1074) = p := by rw [hp, he]; rfl
  have L10 := Aside0.mk (l10_any (-1074) (by omega))
  have hand : bits .and .i64 4503599627370496 1 = 0 := by decide +kernel
  subst he
  have N1 := Aside0.mk (nudge_0 U1 (by omega))
  have N2 := Aside0.mk (nudge_0 U2 (by omega))
  have C1 := Aside0.mk (ceil_any U1 (by omega))
  have F2 := Aside0.mk (floor_any U2 (by omega))
  have R3 := Aside0.mk (round_any U3 (by omega))
  have hz := zero96
  have BX := Aside0.mk (heap_alloc_new w (.cells #[.int .u64 0, .int .u64 0, .int .i64 0] 96))
  have HB : Aside0 (Below w.heap.size w (w.alloc (.cells #[.int .u64 0, .int .u64 0, .int .i64 0] 96))) := ⟨(Below.refl _ _).alloc (Nat.le_refl _) _⟩
  have n7 : Aside0 (w.heap.size ≠ 7) := ⟨Nat.ne_of_gt HT.out.big⟩
  clear hU1 hU2 hU3 hr1 hr2 hsv UL US UP c1 c2 c3 hp
  go_enter Tryz.func52, Tryz.ntmps52
  go_wp2_with (first
    | (go_at_call 47; with_reducible refine (L10.out _).mono ?_; rintro e' w' ⟨rfl, rfl⟩)
    | (go_at_call 61; with_reducible refine (L10.out _).mono ?_; rintro e' w' ⟨rfl, rfl⟩)
    | (go_at_call 63; with_reducible refine (L2.out _).mono ?_; rintro e' w' ⟨rfl, rfl⟩)
    | (go_at_call 62; with_reducible refine (PS.out _ _ _ _ _ (HT.out.below HB.out) BX.out n7.out).mono ?_; rintro e' w2 ⟨rfl, hb, hsz2, hg⟩; have BX2 := Aside0.mk hg; have HB2 := Aside0.mk (HB.out.trans hb); clear hb hsz2 hg)
    | (go_at_call 64; with_reducible refine (UA1.out _ _ BX2.out).mono ?_; rintro e' w3 ⟨rfl, hb⟩; have BX3 := Aside0.mk ((hb.block _ (Array.getElem?_eq_some_iff.1 BX2.out).1).trans BX2.out); have HB3 := Aside0.mk (HB2.out.trans (hb.mono HB2.out.size)); clear hb)
    | (go_at_call 64; with_reducible refine (UA2.out _ _ BX3.out).mono ?_; rintro e' w4 ⟨rfl, hb⟩; have BX4 := Aside0.mk ((hb.block _ (Array.getElem?_eq_some_iff.1 BX3.out).1).trans BX3.out); have HB4 := Aside0.mk (HB3.out.trans (hb.mono HB3.out.size)); clear hb)
    | (go_at_call 64; with_reducible refine (UA3.out _ _ BX4.out).mono ?_; rintro e' w5 ⟨rfl, hb⟩; have HB5 := Aside0.mk (HB4.out.trans (hb.mono HB4.out.size)); clear hb)
    | (go_at_call 65; with_reducible refine (N1.out _).mono ?_; rintro e' w' ⟨rfl, rfl⟩)
    | (go_at_call 65; with_reducible refine (N2.out _).mono ?_; rintro e' w' ⟨rfl, rfl⟩)
    | (go_at_call 66; with_reducible refine (C1.out _).mono ?_; rintro e' w' ⟨rfl, rfl⟩)
    | (go_at_call 67; with_reducible refine (F2.out _).mono ?_; rintro e' w' ⟨rfl, rfl⟩)
    | (go_at_call 68; with_reducible refine (R3.out _).mono ?_; rintro e' w' ⟨rfl, rfl⟩))
  · rename_i h
    have hs : shortOf U1 U2 U3 0 = (U2 / 4 / 10, true) := by
      unfold shortOf
      rw [if_pos (by omega)]
      congr 1 <;> omega
    rw [hs]
    go_ret2
    refine ⟨?_, HB4.out⟩
    show Ending.returned (Value.tuple #[.int .u64 ((U2 : Int) / 4 / 10), .int .i64 (-(p - 1))]) = Ending.returned (.tuple #[.int .u64 ((U2 / 4 / 10 : Nat) : Int), .int .i64 (-p + 1)])
    rw [show -(p - 1) = -p + 1 by omega]
    rfl
  · rename_i h h2
    have hs : shortOf U1 U2 U3 0 = (rnd U3, false) := by
      unfold shortOf
      rw [if_neg (by omega), if_pos (by omega)]
    rw [hs]
    go_ret2
    exact ⟨rfl, HB5.out⟩
  · rename_i h h2
    have hs : shortOf U1 U2 U3 0 = ((U1 + 3) / 4, false) := by
      unfold shortOf
      rw [if_neg (by omega), if_neg (by omega)]
    rw [hs]
    go_ret2
    exact ⟨rfl, HB4.out⟩

set_option maxRecDepth 100000 in
set_option maxHeartbeats 8000000 in
theorem shortC0t (M z m Y : Nat) (e p : Int) (hz1 : 12 ≤ z) (hz2 : z ≤ 63) (hm : m = M * 2 ^ z) (hY : Y = 2 ^ (z - 1)) (hY1 : 1 ≤ Y) (hY2 : Y ≤ 4611686018427387904) (hm1 : 9223372036854775808 ≤ m) (hm2 : m + Y < 18446744073709551616) (he : e = -1074 - z) (cne : (((m : Int) == 9223372036854775808) : Bool) = true) (hodd : M % 2 = 0) (hM2 : M < 4503599627370496) (hp : p = 324) (hp1 : -307 ≤ p) (hp2 : p ≤ 324) (hs1 : 5 ≤ -(e + l2 p + 3)) (hs2 : -(e + l2 p + 3) < 60) (hlr : -2000 ≤ l2 p ∧ l2 p ≤ 2000) (w : World) (ht : Tens w) :
    Calls Tryz.prog 52 #[.int .u64 (m : Int), .int .i64 e] w fun e' w' => e' = .returned (.tuple #[.int .u64 ((ans (shortOf (usc (row10 p).1 (row10 p).2 (sh e p) (m - Y)) (usc (row10 p).1 (row10 p).2 (sh e p) (m + Y)) (usc (row10 p).1 (row10 p).2 (sh e p) (m)) 0) p).1 : Int), .int .i64 (ans (shortOf (usc (row10 p).1 (row10 p).2 (sh e p) (m - Y)) (usc (row10 p).1 (row10 p).2 (sh e p) (m + Y)) (usc (row10 p).1 (row10 p).2 (sh e p) (m)) 0) p).2]) ∧ Below w.heap.size w w' := by
  obtain ⟨R1, R2, R3⟩ := row_ok p (by omega) (by omega)
  have hsh : ((sh e p : Nat) : Int) = -(e + l2 p + 3) := by unfold sh; omega
  have hs5 : 5 ≤ sh e p := by omega
  have hs60 : sh e p < 60 := by omega
  have hs64 : sh e p < 64 := by omega
  have PS := Aside0.mk (fun w g a b c ht hg hg7 => prescale_any e p (l2 p) w g a b c ht hg hg7 (by omega) (by omega) (by omega) (by omega))
  have L2 := Aside0.mk (l2_any p (by omega))
  rw [← hsh] at PS
  have hpos : ∀ x, 2 ≤ x → 0 < x * (row10 p).1 / 18446744073709551616 := fun x hx => by
    apply Nat.div_pos _ (by decide)
    calc 18446744073709551616 = 2 * 9223372036854775808 := by decide
      _ ≤ x * (row10 p).1 := Nat.mul_le_mul hx R1
  have US := Aside0.mk (fun x g w (h2 : 2 ≤ x) (hx : x < 18446744073709551616) hg => uscale_any (row10 p).1 (row10 p).2 (sh e p) x g w R2 R3 hs64 hx (hpos x h2) hg)
  have UL := Aside0.mk (fun x (hx : x < 18446744073709551616) => usc_lt (lo := (row10 p).2) hs5 hx R2)
  have UP := Aside0.mk (fun x (hx : 4611686018427387904 ≤ x) => usc_pos (lo := (row10 p).2) hs60 hx R1)
  have HT := Aside0.mk ht
  clear hpos R1 R2 R3 hsh hs5 hs64 hs60 ht
  generalize hr1 : (row10 p).1 = r1 at *
  generalize hr2 : (row10 p).2 = r2 at *
  generalize hsv : sh e p = sv at *
  obtain ⟨U1, hU1⟩ : ∃ U, usc r1 r2 sv (m - Y) = U := ⟨_, rfl⟩
  have UA1 := Aside0.mk (fun g w hg => hU1 ▸ US.out (m - Y) g w (by omega) (by omega) hg)
  have u1 := hU1 ▸ UL.out (m - Y) (by omega)
  obtain ⟨U2, hU2⟩ : ∃ U, usc r1 r2 sv (m + Y) = U := ⟨_, rfl⟩
  have UA2 := Aside0.mk (fun g w hg => hU2 ▸ US.out (m + Y) g w (by omega) (by omega) hg)
  have u2 := hU2 ▸ UL.out (m + Y) (by omega)
  obtain ⟨U3, hU3⟩ : ∃ U, usc r1 r2 sv (m) = U := ⟨_, rfl⟩
  have UA3 := Aside0.mk (fun g w hg => hU3 ▸ US.out (m) g w (by omega) (by omega) hg)
  have u3 := hU3 ▸ UL.out (m) (by omega)
  have up2 := hU2 ▸ UP.out (m + Y) (by omega)
  rw [hU1, hU2, hU3]
  have c1 : ((m - Y : Nat) : Int) = (m : Int) - Y := by omega
  rw [c1] at UA1
  have c2 : ((m + Y : Nat) : Int) = (m : Int) + Y := by omega
  rw [c2] at UA2
  have hA : (-1085 : Int) - e = (z : Int) - 11 := by omega
  have hB0 : (11 : Int) + ((z : Int) - 11) = (z : Int) := by omega
  have hC : e + (z : Int) = -1074 := by omega
  have he1 : e ≤ -1086 := by omega
  have he2 : -1137 ≤ e := by omega
  have hl : Own.l10 (-1074) = -324 := by decide
  have L10 := Aside0.mk (l10_any (-1074) (by omega))
  rw [hl, show (-324 : Int) = -p by omega] at L10
  have zn : ((z : Int) - 1).toNat = z - 1 := by omega
  have pY : (2 : Int) ^ (z - 1) = (Y : Int) := by rw [hY]; simp
  have qm : (m : Int) / 2 ^ z = (M : Int) := by
    have : m / 2 ^ z = M := by rw [hm]; exact Nat.mul_div_cancel _ (Nat.pow_pos (by omega))
    rw [← this]
    simp
  have hand : bits .and .i64 (M : Int) 1 = 0 := by
    have h := (bits_nat .i64 53 (by decide) (fun n h0 h1 => by rw [IntKind.wrap_i64]; omega) M 1 (by omega) (by omega)).1
    have h' : bits .and .i64 (M : Int) 1 = ((M &&& 1 : Nat) : Int) := h
    rw [h', Nat.and_one_is_mod, hodd]
    rfl
  have N1 := Aside0.mk (nudge_0 U1 (by omega))
  have N2 := Aside0.mk (nudge_0 U2 (by omega))
  have C1 := Aside0.mk (ceil_any U1 (by omega))
  have F2 := Aside0.mk (floor_any U2 (by omega))
  have R3 := Aside0.mk (round_any U3 (by omega))
  have hz := zero96
  have BX := Aside0.mk (heap_alloc_new w (.cells #[.int .u64 0, .int .u64 0, .int .i64 0] 96))
  have HB : Aside0 (Below w.heap.size w (w.alloc (.cells #[.int .u64 0, .int .u64 0, .int .i64 0] 96))) := ⟨(Below.refl _ _).alloc (Nat.le_refl _) _⟩
  have n7 : Aside0 (w.heap.size ≠ 7) := ⟨Nat.ne_of_gt HT.out.big⟩
  clear hU1 hU2 hU3 hr1 hr2 hsv UL US UP c1 c2 hm hY hodd hl he hp
  go_enter Tryz.func52, Tryz.ntmps52
  go_wp2_with (first
    | (go_at_call 47; with_reducible refine (L10.out _).mono ?_; rintro e' w' ⟨rfl, rfl⟩)
    | (go_at_call 61; with_reducible refine (L10.out _).mono ?_; rintro e' w' ⟨rfl, rfl⟩)
    | (go_at_call 63; with_reducible refine (L2.out _).mono ?_; rintro e' w' ⟨rfl, rfl⟩)
    | (go_at_call 62; with_reducible refine (PS.out _ _ _ _ _ (HT.out.below HB.out) BX.out n7.out).mono ?_; rintro e' w2 ⟨rfl, hb, hsz2, hg⟩; have BX2 := Aside0.mk hg; have HB2 := Aside0.mk (HB.out.trans hb); clear hb hsz2 hg)
    | (go_at_call 64; with_reducible refine (UA1.out _ _ BX2.out).mono ?_; rintro e' w3 ⟨rfl, hb⟩; have BX3 := Aside0.mk ((hb.block _ (Array.getElem?_eq_some_iff.1 BX2.out).1).trans BX2.out); have HB3 := Aside0.mk (HB2.out.trans (hb.mono HB2.out.size)); clear hb)
    | (go_at_call 64; with_reducible refine (UA2.out _ _ BX3.out).mono ?_; rintro e' w4 ⟨rfl, hb⟩; have BX4 := Aside0.mk ((hb.block _ (Array.getElem?_eq_some_iff.1 BX3.out).1).trans BX3.out); have HB4 := Aside0.mk (HB3.out.trans (hb.mono HB3.out.size)); clear hb)
    | (go_at_call 64; with_reducible refine (UA3.out _ _ BX4.out).mono ?_; rintro e' w5 ⟨rfl, hb⟩; have HB5 := Aside0.mk (HB4.out.trans (hb.mono HB4.out.size)); clear hb)
    | (go_at_call 65; with_reducible refine (N1.out _).mono ?_; rintro e' w' ⟨rfl, rfl⟩)
    | (go_at_call 65; with_reducible refine (N2.out _).mono ?_; rintro e' w' ⟨rfl, rfl⟩)
    | (go_at_call 66; with_reducible refine (C1.out _).mono ?_; rintro e' w' ⟨rfl, rfl⟩)
    | (go_at_call 67; with_reducible refine (F2.out _).mono ?_; rintro e' w' ⟨rfl, rfl⟩)
    | (go_at_call 68; with_reducible refine (R3.out _).mono ?_; rintro e' w' ⟨rfl, rfl⟩))
  · rename_i h
    have hs : shortOf U1 U2 U3 0 = (U2 / 4 / 10, true) := by
      unfold shortOf
      rw [if_pos (by omega)]
      congr 1 <;> omega
    rw [hs]
    go_ret2
    refine ⟨?_, HB4.out⟩
    show Ending.returned (Value.tuple #[.int .u64 ((U2 : Int) / 4 / 10), .int .i64 (-(p - 1))]) = Ending.returned (.tuple #[.int .u64 ((U2 / 4 / 10 : Nat) : Int), .int .i64 (-p + 1)])
    rw [show -(p - 1) = -p + 1 by omega]
    rfl
  · rename_i h h2
    have hs : shortOf U1 U2 U3 0 = (rnd U3, false) := by
      unfold shortOf
      rw [if_neg (by omega), if_pos (by omega)]
    rw [hs]
    go_ret2
    exact ⟨rfl, HB5.out⟩
  · rename_i h h2
    have hs : shortOf U1 U2 U3 0 = ((U1 + 3) / 4, false) := by
      unfold shortOf
      rw [if_neg (by omega), if_neg (by omega)]
    rw [hs]
    go_ret2
    exact ⟨rfl, HB4.out⟩

set_option maxRecDepth 100000 in
set_option maxHeartbeats 8000000 in
theorem shortC1t (M z m Y : Nat) (e p : Int) (hz1 : 12 ≤ z) (hz2 : z ≤ 63) (hm : m = M * 2 ^ z) (hY : Y = 2 ^ (z - 1)) (hY1 : 1 ≤ Y) (hY2 : Y ≤ 4611686018427387904) (hm1 : 9223372036854775808 ≤ m) (hm2 : m + Y < 18446744073709551616) (he : e = -1074 - z) (cne : (((m : Int) == 9223372036854775808) : Bool) = true) (hodd : M % 2 = 1) (hM2 : M < 4503599627370496) (hp : p = 324) (hp1 : -307 ≤ p) (hp2 : p ≤ 324) (hs1 : 5 ≤ -(e + l2 p + 3)) (hs2 : -(e + l2 p + 3) < 60) (hlr : -2000 ≤ l2 p ∧ l2 p ≤ 2000) (w : World) (ht : Tens w) :
    Calls Tryz.prog 52 #[.int .u64 (m : Int), .int .i64 e] w fun e' w' => e' = .returned (.tuple #[.int .u64 ((ans (shortOf (usc (row10 p).1 (row10 p).2 (sh e p) (m - Y)) (usc (row10 p).1 (row10 p).2 (sh e p) (m + Y)) (usc (row10 p).1 (row10 p).2 (sh e p) (m)) 1) p).1 : Int), .int .i64 (ans (shortOf (usc (row10 p).1 (row10 p).2 (sh e p) (m - Y)) (usc (row10 p).1 (row10 p).2 (sh e p) (m + Y)) (usc (row10 p).1 (row10 p).2 (sh e p) (m)) 1) p).2]) ∧ Below w.heap.size w w' := by
  obtain ⟨R1, R2, R3⟩ := row_ok p (by omega) (by omega)
  have hsh : ((sh e p : Nat) : Int) = -(e + l2 p + 3) := by unfold sh; omega
  have hs5 : 5 ≤ sh e p := by omega
  have hs60 : sh e p < 60 := by omega
  have hs64 : sh e p < 64 := by omega
  have PS := Aside0.mk (fun w g a b c ht hg hg7 => prescale_any e p (l2 p) w g a b c ht hg hg7 (by omega) (by omega) (by omega) (by omega))
  have L2 := Aside0.mk (l2_any p (by omega))
  rw [← hsh] at PS
  have hpos : ∀ x, 2 ≤ x → 0 < x * (row10 p).1 / 18446744073709551616 := fun x hx => by
    apply Nat.div_pos _ (by decide)
    calc 18446744073709551616 = 2 * 9223372036854775808 := by decide
      _ ≤ x * (row10 p).1 := Nat.mul_le_mul hx R1
  have US := Aside0.mk (fun x g w (h2 : 2 ≤ x) (hx : x < 18446744073709551616) hg => uscale_any (row10 p).1 (row10 p).2 (sh e p) x g w R2 R3 hs64 hx (hpos x h2) hg)
  have UL := Aside0.mk (fun x (hx : x < 18446744073709551616) => usc_lt (lo := (row10 p).2) hs5 hx R2)
  have UP := Aside0.mk (fun x (hx : 4611686018427387904 ≤ x) => usc_pos (lo := (row10 p).2) hs60 hx R1)
  have HT := Aside0.mk ht
  clear hpos R1 R2 R3 hsh hs5 hs64 hs60 ht
  generalize hr1 : (row10 p).1 = r1 at *
  generalize hr2 : (row10 p).2 = r2 at *
  generalize hsv : sh e p = sv at *
  obtain ⟨U1, hU1⟩ : ∃ U, usc r1 r2 sv (m - Y) = U := ⟨_, rfl⟩
  have UA1 := Aside0.mk (fun g w hg => hU1 ▸ US.out (m - Y) g w (by omega) (by omega) hg)
  have u1 := hU1 ▸ UL.out (m - Y) (by omega)
  obtain ⟨U2, hU2⟩ : ∃ U, usc r1 r2 sv (m + Y) = U := ⟨_, rfl⟩
  have UA2 := Aside0.mk (fun g w hg => hU2 ▸ US.out (m + Y) g w (by omega) (by omega) hg)
  have u2 := hU2 ▸ UL.out (m + Y) (by omega)
  obtain ⟨U3, hU3⟩ : ∃ U, usc r1 r2 sv (m) = U := ⟨_, rfl⟩
  have UA3 := Aside0.mk (fun g w hg => hU3 ▸ US.out (m) g w (by omega) (by omega) hg)
  have u3 := hU3 ▸ UL.out (m) (by omega)
  have up2 := hU2 ▸ UP.out (m + Y) (by omega)
  rw [hU1, hU2, hU3]
  have c1 : ((m - Y : Nat) : Int) = (m : Int) - Y := by omega
  rw [c1] at UA1
  have c2 : ((m + Y : Nat) : Int) = (m : Int) + Y := by omega
  rw [c2] at UA2
  have hA : (-1085 : Int) - e = (z : Int) - 11 := by omega
  have hB0 : (11 : Int) + ((z : Int) - 11) = (z : Int) := by omega
  have hC : e + (z : Int) = -1074 := by omega
  have he1 : e ≤ -1086 := by omega
  have he2 : -1137 ≤ e := by omega
  have hl : Own.l10 (-1074) = -324 := by decide
  have L10 := Aside0.mk (l10_any (-1074) (by omega))
  rw [hl, show (-324 : Int) = -p by omega] at L10
  have zn : ((z : Int) - 1).toNat = z - 1 := by omega
  have pY : (2 : Int) ^ (z - 1) = (Y : Int) := by rw [hY]; simp
  have qm : (m : Int) / 2 ^ z = (M : Int) := by
    have : m / 2 ^ z = M := by rw [hm]; exact Nat.mul_div_cancel _ (Nat.pow_pos (by omega))
    rw [← this]
    simp
  have hand : bits .and .i64 (M : Int) 1 = 1 := by
    have h := (bits_nat .i64 53 (by decide) (fun n h0 h1 => by rw [IntKind.wrap_i64]; omega) M 1 (by omega) (by omega)).1
    have h' : bits .and .i64 (M : Int) 1 = ((M &&& 1 : Nat) : Int) := h
    rw [h', Nat.and_one_is_mod, hodd]
    rfl
  have N1 := Aside0.mk (nudge_1 U1 (by omega))
  have N2 := Aside0.mk (nudge_m U2 (by omega) up2)
  have C1 := Aside0.mk (ceil_any (U1 + 1) (by omega))
  have F2 := Aside0.mk (floor_any (U2 - 1) (by omega))
  have R3 := Aside0.mk (round_any U3 (by omega))
  obtain ⟨V1, hV1⟩ : ∃ V, U1 + 1 = V := ⟨_, rfl⟩
  obtain ⟨V2, hV2⟩ : ∃ V, U2 - 1 = V := ⟨_, rfl⟩
  rw [hV1] at N1 C1
  rw [hV2] at N2 F2
  have HV := Aside0.mk (And.intro hV1 hV2)
  have v1 : V1 < 9223372036854775808 := by omega
  have v2 : V2 < 9223372036854775808 := by omega
  clear hV1 hV2
  have hz := zero96
  have BX := Aside0.mk (heap_alloc_new w (.cells #[.int .u64 0, .int .u64 0, .int .i64 0] 96))
  have HB : Aside0 (Below w.heap.size w (w.alloc (.cells #[.int .u64 0, .int .u64 0, .int .i64 0] 96))) := ⟨(Below.refl _ _).alloc (Nat.le_refl _) _⟩
  have n7 : Aside0 (w.heap.size ≠ 7) := ⟨Nat.ne_of_gt HT.out.big⟩
  clear hU1 hU2 hU3 hr1 hr2 hsv UL US UP c1 c2 hm hY hodd hl he hp
  go_enter Tryz.func52, Tryz.ntmps52
  go_wp2_with (first
    | (go_at_call 47; with_reducible refine (L10.out _).mono ?_; rintro e' w' ⟨rfl, rfl⟩)
    | (go_at_call 61; with_reducible refine (L10.out _).mono ?_; rintro e' w' ⟨rfl, rfl⟩)
    | (go_at_call 63; with_reducible refine (L2.out _).mono ?_; rintro e' w' ⟨rfl, rfl⟩)
    | (go_at_call 62; with_reducible refine (PS.out _ _ _ _ _ (HT.out.below HB.out) BX.out n7.out).mono ?_; rintro e' w2 ⟨rfl, hb, hsz2, hg⟩; have BX2 := Aside0.mk hg; have HB2 := Aside0.mk (HB.out.trans hb); clear hb hsz2 hg)
    | (go_at_call 64; with_reducible refine (UA1.out _ _ BX2.out).mono ?_; rintro e' w3 ⟨rfl, hb⟩; have BX3 := Aside0.mk ((hb.block _ (Array.getElem?_eq_some_iff.1 BX2.out).1).trans BX2.out); have HB3 := Aside0.mk (HB2.out.trans (hb.mono HB2.out.size)); clear hb)
    | (go_at_call 64; with_reducible refine (UA2.out _ _ BX3.out).mono ?_; rintro e' w4 ⟨rfl, hb⟩; have BX4 := Aside0.mk ((hb.block _ (Array.getElem?_eq_some_iff.1 BX3.out).1).trans BX3.out); have HB4 := Aside0.mk (HB3.out.trans (hb.mono HB3.out.size)); clear hb)
    | (go_at_call 64; with_reducible refine (UA3.out _ _ BX4.out).mono ?_; rintro e' w5 ⟨rfl, hb⟩; have HB5 := Aside0.mk (HB4.out.trans (hb.mono HB4.out.size)); clear hb)
    | (go_at_call 65; with_reducible refine (N1.out _).mono ?_; rintro e' w' ⟨rfl, rfl⟩)
    | (go_at_call 65; with_reducible refine (N2.out _).mono ?_; rintro e' w' ⟨rfl, rfl⟩)
    | (go_at_call 66; with_reducible refine (C1.out _).mono ?_; rintro e' w' ⟨rfl, rfl⟩)
    | (go_at_call 67; with_reducible refine (F2.out _).mono ?_; rintro e' w' ⟨rfl, rfl⟩)
    | (go_at_call 68; with_reducible refine (R3.out _).mono ?_; rintro e' w' ⟨rfl, rfl⟩))
  · rename_i h
    obtain ⟨g1, g2⟩ := HV.out
    have hs : shortOf U1 U2 U3 1 = (V2 / 4 / 10, true) := by
      unfold shortOf
      rw [if_pos (by omega)]
      congr 1 <;> omega
    rw [hs]
    go_ret2
    refine ⟨?_, HB4.out⟩
    show Ending.returned (Value.tuple #[.int .u64 ((V2 : Int) / 4 / 10), .int .i64 (-(p - 1))]) = Ending.returned (.tuple #[.int .u64 ((V2 / 4 / 10 : Nat) : Int), .int .i64 (-p + 1)])
    rw [show -(p - 1) = -p + 1 by omega]
    rfl
  · rename_i h h2
    obtain ⟨g1, g2⟩ := HV.out
    have hs : shortOf U1 U2 U3 1 = (rnd U3, false) := by
      unfold shortOf
      rw [if_neg (by omega), if_pos (by omega)]
    rw [hs]
    go_ret2
    exact ⟨rfl, HB5.out⟩
  · rename_i h h2
    obtain ⟨g1, g2⟩ := HV.out
    have hs : shortOf U1 U2 U3 1 = ((V1 + 3) / 4, false) := by
      unfold shortOf
      rw [if_neg (by omega), if_neg (by omega)]
      congr 1 <;> omega
    rw [hs]
    go_ret2
    exact ⟨rfl, HB4.out⟩

set_option maxRecDepth 100000 in
set_option maxHeartbeats 8000000 in
theorem shortC0f (M z m Y : Nat) (e p : Int) (hz1 : 12 ≤ z) (hz2 : z ≤ 63) (hm : m = M * 2 ^ z) (hY : Y = 2 ^ (z - 1)) (hY1 : 1 ≤ Y) (hY2 : Y ≤ 4611686018427387904) (hm1 : 9223372036854775808 ≤ m) (hm2 : m + Y < 18446744073709551616) (he : e = -1074 - z) (cne : (((m : Int) == 9223372036854775808) : Bool) = false) (hodd : M % 2 = 0) (hM2 : M < 4503599627370496) (hp : p = 324) (hp1 : -307 ≤ p) (hp2 : p ≤ 324) (hs1 : 5 ≤ -(e + l2 p + 3)) (hs2 : -(e + l2 p + 3) < 60) (hlr : -2000 ≤ l2 p ∧ l2 p ≤ 2000) (w : World) (ht : Tens w) :
    Calls Tryz.prog 52 #[.int .u64 (m : Int), .int .i64 e] w fun e' w' => e' = .returned (.tuple #[.int .u64 ((ans (shortOf (usc (row10 p).1 (row10 p).2 (sh e p) (m - Y)) (usc (row10 p).1 (row10 p).2 (sh e p) (m + Y)) (usc (row10 p).1 (row10 p).2 (sh e p) (m)) 0) p).1 : Int), .int .i64 (ans (shortOf (usc (row10 p).1 (row10 p).2 (sh e p) (m - Y)) (usc (row10 p).1 (row10 p).2 (sh e p) (m + Y)) (usc (row10 p).1 (row10 p).2 (sh e p) (m)) 0) p).2]) ∧ Below w.heap.size w w' := by
  obtain ⟨R1, R2, R3⟩ := row_ok p (by omega) (by omega)
  have hsh : ((sh e p : Nat) : Int) = -(e + l2 p + 3) := by unfold sh; omega
  have hs5 : 5 ≤ sh e p := by omega
  have hs60 : sh e p < 60 := by omega
  have hs64 : sh e p < 64 := by omega
  have PS := Aside0.mk (fun w g a b c ht hg hg7 => prescale_any e p (l2 p) w g a b c ht hg hg7 (by omega) (by omega) (by omega) (by omega))
  have L2 := Aside0.mk (l2_any p (by omega))
  rw [← hsh] at PS
  have hpos : ∀ x, 2 ≤ x → 0 < x * (row10 p).1 / 18446744073709551616 := fun x hx => by
    apply Nat.div_pos _ (by decide)
    calc 18446744073709551616 = 2 * 9223372036854775808 := by decide
      _ ≤ x * (row10 p).1 := Nat.mul_le_mul hx R1
  have US := Aside0.mk (fun x g w (h2 : 2 ≤ x) (hx : x < 18446744073709551616) hg => uscale_any (row10 p).1 (row10 p).2 (sh e p) x g w R2 R3 hs64 hx (hpos x h2) hg)
  have UL := Aside0.mk (fun x (hx : x < 18446744073709551616) => usc_lt (lo := (row10 p).2) hs5 hx R2)
  have UP := Aside0.mk (fun x (hx : 4611686018427387904 ≤ x) => usc_pos (lo := (row10 p).2) hs60 hx R1)
  have HT := Aside0.mk ht
  clear hpos R1 R2 R3 hsh hs5 hs64 hs60 ht
  generalize hr1 : (row10 p).1 = r1 at *
  generalize hr2 : (row10 p).2 = r2 at *
  generalize hsv : sh e p = sv at *
  obtain ⟨U1, hU1⟩ : ∃ U, usc r1 r2 sv (m - Y) = U := ⟨_, rfl⟩
  have UA1 := Aside0.mk (fun g w hg => hU1 ▸ US.out (m - Y) g w (by omega) (by omega) hg)
  have u1 := hU1 ▸ UL.out (m - Y) (by omega)
  obtain ⟨U2, hU2⟩ : ∃ U, usc r1 r2 sv (m + Y) = U := ⟨_, rfl⟩
  have UA2 := Aside0.mk (fun g w hg => hU2 ▸ US.out (m + Y) g w (by omega) (by omega) hg)
  have u2 := hU2 ▸ UL.out (m + Y) (by omega)
  obtain ⟨U3, hU3⟩ : ∃ U, usc r1 r2 sv (m) = U := ⟨_, rfl⟩
  have UA3 := Aside0.mk (fun g w hg => hU3 ▸ US.out (m) g w (by omega) (by omega) hg)
  have u3 := hU3 ▸ UL.out (m) (by omega)
  have up2 := hU2 ▸ UP.out (m + Y) (by omega)
  rw [hU1, hU2, hU3]
  have c1 : ((m - Y : Nat) : Int) = (m : Int) - Y := by omega
  rw [c1] at UA1
  have c2 : ((m + Y : Nat) : Int) = (m : Int) + Y := by omega
  rw [c2] at UA2
  have hA : (-1085 : Int) - e = (z : Int) - 11 := by omega
  have hB0 : (11 : Int) + ((z : Int) - 11) = (z : Int) := by omega
  have hC : e + (z : Int) = -1074 := by omega
  have he1 : e ≤ -1086 := by omega
  have he2 : -1137 ≤ e := by omega
  have hl : Own.l10 (-1074) = -324 := by decide
  have L10 := Aside0.mk (l10_any (-1074) (by omega))
  rw [hl, show (-324 : Int) = -p by omega] at L10
  have zn : ((z : Int) - 1).toNat = z - 1 := by omega
  have pY : (2 : Int) ^ (z - 1) = (Y : Int) := by rw [hY]; simp
  have qm : (m : Int) / 2 ^ z = (M : Int) := by
    have : m / 2 ^ z = M := by rw [hm]; exact Nat.mul_div_cancel _ (Nat.pow_pos (by omega))
    rw [← this]
    simp
  have hand : bits .and .i64 (M : Int) 1 = 0 := by
    have h := (bits_nat .i64 53 (by decide) (fun n h0 h1 => by rw [IntKind.wrap_i64]; omega) M 1 (by omega) (by omega)).1
    have h' : bits .and .i64 (M : Int) 1 = ((M &&& 1 : Nat) : Int) := h
    rw [h', Nat.and_one_is_mod, hodd]
    rfl
  have N1 := Aside0.mk (nudge_0 U1 (by omega))
  have N2 := Aside0.mk (nudge_0 U2 (by omega))
  have C1 := Aside0.mk (ceil_any U1 (by omega))
  have F2 := Aside0.mk (floor_any U2 (by omega))
  have R3 := Aside0.mk (round_any U3 (by omega))
  have hz := zero96
  have BX := Aside0.mk (heap_alloc_new w (.cells #[.int .u64 0, .int .u64 0, .int .i64 0] 96))
  have HB : Aside0 (Below w.heap.size w (w.alloc (.cells #[.int .u64 0, .int .u64 0, .int .i64 0] 96))) := ⟨(Below.refl _ _).alloc (Nat.le_refl _) _⟩
  have n7 : Aside0 (w.heap.size ≠ 7) := ⟨Nat.ne_of_gt HT.out.big⟩
  clear hU1 hU2 hU3 hr1 hr2 hsv UL US UP c1 c2 hm hY hodd hl he hp
  go_enter Tryz.func52, Tryz.ntmps52
  go_wp2_with (first
    | (go_at_call 47; with_reducible refine (L10.out _).mono ?_; rintro e' w' ⟨rfl, rfl⟩)
    | (go_at_call 61; with_reducible refine (L10.out _).mono ?_; rintro e' w' ⟨rfl, rfl⟩)
    | (go_at_call 63; with_reducible refine (L2.out _).mono ?_; rintro e' w' ⟨rfl, rfl⟩)
    | (go_at_call 62; with_reducible refine (PS.out _ _ _ _ _ (HT.out.below HB.out) BX.out n7.out).mono ?_; rintro e' w2 ⟨rfl, hb, hsz2, hg⟩; have BX2 := Aside0.mk hg; have HB2 := Aside0.mk (HB.out.trans hb); clear hb hsz2 hg)
    | (go_at_call 64; with_reducible refine (UA1.out _ _ BX2.out).mono ?_; rintro e' w3 ⟨rfl, hb⟩; have BX3 := Aside0.mk ((hb.block _ (Array.getElem?_eq_some_iff.1 BX2.out).1).trans BX2.out); have HB3 := Aside0.mk (HB2.out.trans (hb.mono HB2.out.size)); clear hb)
    | (go_at_call 64; with_reducible refine (UA2.out _ _ BX3.out).mono ?_; rintro e' w4 ⟨rfl, hb⟩; have BX4 := Aside0.mk ((hb.block _ (Array.getElem?_eq_some_iff.1 BX3.out).1).trans BX3.out); have HB4 := Aside0.mk (HB3.out.trans (hb.mono HB3.out.size)); clear hb)
    | (go_at_call 64; with_reducible refine (UA3.out _ _ BX4.out).mono ?_; rintro e' w5 ⟨rfl, hb⟩; have HB5 := Aside0.mk (HB4.out.trans (hb.mono HB4.out.size)); clear hb)
    | (go_at_call 65; with_reducible refine (N1.out _).mono ?_; rintro e' w' ⟨rfl, rfl⟩)
    | (go_at_call 65; with_reducible refine (N2.out _).mono ?_; rintro e' w' ⟨rfl, rfl⟩)
    | (go_at_call 66; with_reducible refine (C1.out _).mono ?_; rintro e' w' ⟨rfl, rfl⟩)
    | (go_at_call 67; with_reducible refine (F2.out _).mono ?_; rintro e' w' ⟨rfl, rfl⟩)
    | (go_at_call 68; with_reducible refine (R3.out _).mono ?_; rintro e' w' ⟨rfl, rfl⟩))
  · rename_i h
    have hs : shortOf U1 U2 U3 0 = (U2 / 4 / 10, true) := by
      unfold shortOf
      rw [if_pos (by omega)]
      congr 1 <;> omega
    rw [hs]
    go_ret2
    refine ⟨?_, HB4.out⟩
    show Ending.returned (Value.tuple #[.int .u64 ((U2 : Int) / 4 / 10), .int .i64 (-(p - 1))]) = Ending.returned (.tuple #[.int .u64 ((U2 / 4 / 10 : Nat) : Int), .int .i64 (-p + 1)])
    rw [show -(p - 1) = -p + 1 by omega]
    rfl
  · rename_i h h2
    have hs : shortOf U1 U2 U3 0 = (rnd U3, false) := by
      unfold shortOf
      rw [if_neg (by omega), if_pos (by omega)]
    rw [hs]
    go_ret2
    exact ⟨rfl, HB5.out⟩
  · rename_i h h2
    have hs : shortOf U1 U2 U3 0 = ((U1 + 3) / 4, false) := by
      unfold shortOf
      rw [if_neg (by omega), if_neg (by omega)]
    rw [hs]
    go_ret2
    exact ⟨rfl, HB4.out⟩

set_option maxRecDepth 100000 in
set_option maxHeartbeats 8000000 in
theorem shortC1f (M z m Y : Nat) (e p : Int) (hz1 : 12 ≤ z) (hz2 : z ≤ 63) (hm : m = M * 2 ^ z) (hY : Y = 2 ^ (z - 1)) (hY1 : 1 ≤ Y) (hY2 : Y ≤ 4611686018427387904) (hm1 : 9223372036854775808 ≤ m) (hm2 : m + Y < 18446744073709551616) (he : e = -1074 - z) (cne : (((m : Int) == 9223372036854775808) : Bool) = false) (hodd : M % 2 = 1) (hM2 : M < 4503599627370496) (hp : p = 324) (hp1 : -307 ≤ p) (hp2 : p ≤ 324) (hs1 : 5 ≤ -(e + l2 p + 3)) (hs2 : -(e + l2 p + 3) < 60) (hlr : -2000 ≤ l2 p ∧ l2 p ≤ 2000) (w : World) (ht : Tens w) :
    Calls Tryz.prog 52 #[.int .u64 (m : Int), .int .i64 e] w fun e' w' => e' = .returned (.tuple #[.int .u64 ((ans (shortOf (usc (row10 p).1 (row10 p).2 (sh e p) (m - Y)) (usc (row10 p).1 (row10 p).2 (sh e p) (m + Y)) (usc (row10 p).1 (row10 p).2 (sh e p) (m)) 1) p).1 : Int), .int .i64 (ans (shortOf (usc (row10 p).1 (row10 p).2 (sh e p) (m - Y)) (usc (row10 p).1 (row10 p).2 (sh e p) (m + Y)) (usc (row10 p).1 (row10 p).2 (sh e p) (m)) 1) p).2]) ∧ Below w.heap.size w w' := by
  obtain ⟨R1, R2, R3⟩ := row_ok p (by omega) (by omega)
  have hsh : ((sh e p : Nat) : Int) = -(e + l2 p + 3) := by unfold sh; omega
  have hs5 : 5 ≤ sh e p := by omega
  have hs60 : sh e p < 60 := by omega
  have hs64 : sh e p < 64 := by omega
  have PS := Aside0.mk (fun w g a b c ht hg hg7 => prescale_any e p (l2 p) w g a b c ht hg hg7 (by omega) (by omega) (by omega) (by omega))
  have L2 := Aside0.mk (l2_any p (by omega))
  rw [← hsh] at PS
  have hpos : ∀ x, 2 ≤ x → 0 < x * (row10 p).1 / 18446744073709551616 := fun x hx => by
    apply Nat.div_pos _ (by decide)
    calc 18446744073709551616 = 2 * 9223372036854775808 := by decide
      _ ≤ x * (row10 p).1 := Nat.mul_le_mul hx R1
  have US := Aside0.mk (fun x g w (h2 : 2 ≤ x) (hx : x < 18446744073709551616) hg => uscale_any (row10 p).1 (row10 p).2 (sh e p) x g w R2 R3 hs64 hx (hpos x h2) hg)
  have UL := Aside0.mk (fun x (hx : x < 18446744073709551616) => usc_lt (lo := (row10 p).2) hs5 hx R2)
  have UP := Aside0.mk (fun x (hx : 4611686018427387904 ≤ x) => usc_pos (lo := (row10 p).2) hs60 hx R1)
  have HT := Aside0.mk ht
  clear hpos R1 R2 R3 hsh hs5 hs64 hs60 ht
  generalize hr1 : (row10 p).1 = r1 at *
  generalize hr2 : (row10 p).2 = r2 at *
  generalize hsv : sh e p = sv at *
  obtain ⟨U1, hU1⟩ : ∃ U, usc r1 r2 sv (m - Y) = U := ⟨_, rfl⟩
  have UA1 := Aside0.mk (fun g w hg => hU1 ▸ US.out (m - Y) g w (by omega) (by omega) hg)
  have u1 := hU1 ▸ UL.out (m - Y) (by omega)
  obtain ⟨U2, hU2⟩ : ∃ U, usc r1 r2 sv (m + Y) = U := ⟨_, rfl⟩
  have UA2 := Aside0.mk (fun g w hg => hU2 ▸ US.out (m + Y) g w (by omega) (by omega) hg)
  have u2 := hU2 ▸ UL.out (m + Y) (by omega)
  obtain ⟨U3, hU3⟩ : ∃ U, usc r1 r2 sv (m) = U := ⟨_, rfl⟩
  have UA3 := Aside0.mk (fun g w hg => hU3 ▸ US.out (m) g w (by omega) (by omega) hg)
  have u3 := hU3 ▸ UL.out (m) (by omega)
  have up2 := hU2 ▸ UP.out (m + Y) (by omega)
  rw [hU1, hU2, hU3]
  have c1 : ((m - Y : Nat) : Int) = (m : Int) - Y := by omega
  rw [c1] at UA1
  have c2 : ((m + Y : Nat) : Int) = (m : Int) + Y := by omega
  rw [c2] at UA2
  have hA : (-1085 : Int) - e = (z : Int) - 11 := by omega
  have hB0 : (11 : Int) + ((z : Int) - 11) = (z : Int) := by omega
  have hC : e + (z : Int) = -1074 := by omega
  have he1 : e ≤ -1086 := by omega
  have he2 : -1137 ≤ e := by omega
  have hl : Own.l10 (-1074) = -324 := by decide
  have L10 := Aside0.mk (l10_any (-1074) (by omega))
  rw [hl, show (-324 : Int) = -p by omega] at L10
  have zn : ((z : Int) - 1).toNat = z - 1 := by omega
  have pY : (2 : Int) ^ (z - 1) = (Y : Int) := by rw [hY]; simp
  have qm : (m : Int) / 2 ^ z = (M : Int) := by
    have : m / 2 ^ z = M := by rw [hm]; exact Nat.mul_div_cancel _ (Nat.pow_pos (by omega))
    rw [← this]
    simp
  have hand : bits .and .i64 (M : Int) 1 = 1 := by
    have h := (bits_nat .i64 53 (by decide) (fun n h0 h1 => by rw [IntKind.wrap_i64]; omega) M 1 (by omega) (by omega)).1
    have h' : bits .and .i64 (M : Int) 1 = ((M &&& 1 : Nat) : Int) := h
    rw [h', Nat.and_one_is_mod, hodd]
    rfl
  have N1 := Aside0.mk (nudge_1 U1 (by omega))
  have N2 := Aside0.mk (nudge_m U2 (by omega) up2)
  have C1 := Aside0.mk (ceil_any (U1 + 1) (by omega))
  have F2 := Aside0.mk (floor_any (U2 - 1) (by omega))
  have R3 := Aside0.mk (round_any U3 (by omega))
  obtain ⟨V1, hV1⟩ : ∃ V, U1 + 1 = V := ⟨_, rfl⟩
  obtain ⟨V2, hV2⟩ : ∃ V, U2 - 1 = V := ⟨_, rfl⟩
  rw [hV1] at N1 C1
  rw [hV2] at N2 F2
  have HV := Aside0.mk (And.intro hV1 hV2)
  have v1 : V1 < 9223372036854775808 := by omega
  have v2 : V2 < 9223372036854775808 := by omega
  clear hV1 hV2
  have hz := zero96
  have BX := Aside0.mk (heap_alloc_new w (.cells #[.int .u64 0, .int .u64 0, .int .i64 0] 96))
  have HB : Aside0 (Below w.heap.size w (w.alloc (.cells #[.int .u64 0, .int .u64 0, .int .i64 0] 96))) := ⟨(Below.refl _ _).alloc (Nat.le_refl _) _⟩
  have n7 : Aside0 (w.heap.size ≠ 7) := ⟨Nat.ne_of_gt HT.out.big⟩
  clear hU1 hU2 hU3 hr1 hr2 hsv UL US UP c1 c2 hm hY hodd hl he hp
  go_enter Tryz.func52, Tryz.ntmps52
  go_wp2_with (first
    | (go_at_call 47; with_reducible refine (L10.out _).mono ?_; rintro e' w' ⟨rfl, rfl⟩)
    | (go_at_call 61; with_reducible refine (L10.out _).mono ?_; rintro e' w' ⟨rfl, rfl⟩)
    | (go_at_call 63; with_reducible refine (L2.out _).mono ?_; rintro e' w' ⟨rfl, rfl⟩)
    | (go_at_call 62; with_reducible refine (PS.out _ _ _ _ _ (HT.out.below HB.out) BX.out n7.out).mono ?_; rintro e' w2 ⟨rfl, hb, hsz2, hg⟩; have BX2 := Aside0.mk hg; have HB2 := Aside0.mk (HB.out.trans hb); clear hb hsz2 hg)
    | (go_at_call 64; with_reducible refine (UA1.out _ _ BX2.out).mono ?_; rintro e' w3 ⟨rfl, hb⟩; have BX3 := Aside0.mk ((hb.block _ (Array.getElem?_eq_some_iff.1 BX2.out).1).trans BX2.out); have HB3 := Aside0.mk (HB2.out.trans (hb.mono HB2.out.size)); clear hb)
    | (go_at_call 64; with_reducible refine (UA2.out _ _ BX3.out).mono ?_; rintro e' w4 ⟨rfl, hb⟩; have BX4 := Aside0.mk ((hb.block _ (Array.getElem?_eq_some_iff.1 BX3.out).1).trans BX3.out); have HB4 := Aside0.mk (HB3.out.trans (hb.mono HB3.out.size)); clear hb)
    | (go_at_call 64; with_reducible refine (UA3.out _ _ BX4.out).mono ?_; rintro e' w5 ⟨rfl, hb⟩; have HB5 := Aside0.mk (HB4.out.trans (hb.mono HB4.out.size)); clear hb)
    | (go_at_call 65; with_reducible refine (N1.out _).mono ?_; rintro e' w' ⟨rfl, rfl⟩)
    | (go_at_call 65; with_reducible refine (N2.out _).mono ?_; rintro e' w' ⟨rfl, rfl⟩)
    | (go_at_call 66; with_reducible refine (C1.out _).mono ?_; rintro e' w' ⟨rfl, rfl⟩)
    | (go_at_call 67; with_reducible refine (F2.out _).mono ?_; rintro e' w' ⟨rfl, rfl⟩)
    | (go_at_call 68; with_reducible refine (R3.out _).mono ?_; rintro e' w' ⟨rfl, rfl⟩))
  · rename_i h
    obtain ⟨g1, g2⟩ := HV.out
    have hs : shortOf U1 U2 U3 1 = (V2 / 4 / 10, true) := by
      unfold shortOf
      rw [if_pos (by omega)]
      congr 1 <;> omega
    rw [hs]
    go_ret2
    refine ⟨?_, HB4.out⟩
    show Ending.returned (Value.tuple #[.int .u64 ((V2 : Int) / 4 / 10), .int .i64 (-(p - 1))]) = Ending.returned (.tuple #[.int .u64 ((V2 / 4 / 10 : Nat) : Int), .int .i64 (-p + 1)])
    rw [show -(p - 1) = -p + 1 by omega]
    rfl
  · rename_i h h2
    obtain ⟨g1, g2⟩ := HV.out
    have hs : shortOf U1 U2 U3 1 = (rnd U3, false) := by
      unfold shortOf
      rw [if_neg (by omega), if_pos (by omega)]
    rw [hs]
    go_ret2
    exact ⟨rfl, HB5.out⟩
  · rename_i h h2
    obtain ⟨g1, g2⟩ := HV.out
    have hs : shortOf U1 U2 U3 1 = ((V1 + 3) / 4, false) := by
      unfold shortOf
      rw [if_neg (by omega), if_neg (by omega)]
      congr 1 <;> omega
    rw [hs]
    go_ret2
    exact ⟨rfl, HB4.out⟩
end Go.Proofs.YtjniglmijikojaaGreatDoor.Text
