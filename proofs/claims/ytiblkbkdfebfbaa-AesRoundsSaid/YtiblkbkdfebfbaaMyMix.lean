/- mixed, and the closure in it: their contracts. No conditions. -/
import Derived.Test.YtiblkbkdfebfbaaMyTurn
namespace Go.Proofs.Ytiblkbkdfebfbaa.Aes
open Go.RowKit Go.Proofs.Ytiblkbkdfebfbaa.Own

set_option maxRecDepth 30000 in
set_option maxHeartbeats 4000000 in
theorem at_any (f : Nat → B8) (C k n gb gc gi : Nat) (w : World) (hb : Bx w gb (ba 16 f) 23) (hc : Bx w gc #[.int .i64 (C : Int)] 3) (hi : Bx w gi #[.int .i64 (k : Int)] 3) (hC : C ≤ 12) (hk : k < 16) (hn : n < 4) :
    Calls Try.prog 21 #[.int .i64 (n : Int), .pointer (some ⟨gb, 0, none⟩), .pointer (some ⟨gc, 0, none⟩), .pointer (some ⟨gi, 0, none⟩)] w fun e w' => e = .returned (.int .u8 ((f (C + (k + n) % 4)).toNat : Int)) ∧ w = w' := by
  have c0 : w.cell? ⟨gc, 0, none⟩ = some (.int .i64 (C : Int)) := (cell_of hc 0).trans rfl
  have c1 : w.cell? ⟨gi, 0, none⟩ = some (.int .i64 (k : Int)) := (cell_of hi 0).trans rfl
  have c2 : w.cell? ⟨gb, C + (k + n) % 4, none⟩ = some (.int .u8 ((f (C + (k + n) % 4)).toNat : Int)) := (cell_of hb _).trans (ba_get 16 f _ (by omega))
  have hx : C + (k + n) % 4 < 16 := by omega
  clear hb hc hi
  generalize hy : f (C + (k + n) % 4) = y at *
  clear hy
  go_enter Try.func21, Try.ntmps21
  go_wp2
  go_ret
  exact ⟨rfl, rfl⟩
theorem at_0 (f : Nat → B8) (C k gb gc gi : Nat) (w : World) (hb : Bx w gb (ba 16 f) 23) (hc : Bx w gc #[.int .i64 (C : Int)] 3) (hi : Bx w gi #[.int .i64 (k : Int)] 3) (hC : C ≤ 12) (hk : k < 16) :
    Calls Try.prog 21 #[.int .i64 0, .pointer (some ⟨gb, 0, none⟩), .pointer (some ⟨gc, 0, none⟩), .pointer (some ⟨gi, 0, none⟩)] w fun e w' => e = .returned (.int .u8 ((f (C + (k + 0) % 4)).toNat : Int)) ∧ w = w' := at_any f C k 0 gb gc gi w hb hc hi hC hk (by omega)
theorem at_1 (f : Nat → B8) (C k gb gc gi : Nat) (w : World) (hb : Bx w gb (ba 16 f) 23) (hc : Bx w gc #[.int .i64 (C : Int)] 3) (hi : Bx w gi #[.int .i64 (k : Int)] 3) (hC : C ≤ 12) (hk : k < 16) :
    Calls Try.prog 21 #[.int .i64 1, .pointer (some ⟨gb, 0, none⟩), .pointer (some ⟨gc, 0, none⟩), .pointer (some ⟨gi, 0, none⟩)] w fun e w' => e = .returned (.int .u8 ((f (C + (k + 1) % 4)).toNat : Int)) ∧ w = w' := at_any f C k 1 gb gc gi w hb hc hi hC hk (by omega)
theorem at_2 (f : Nat → B8) (C k gb gc gi : Nat) (w : World) (hb : Bx w gb (ba 16 f) 23) (hc : Bx w gc #[.int .i64 (C : Int)] 3) (hi : Bx w gi #[.int .i64 (k : Int)] 3) (hC : C ≤ 12) (hk : k < 16) :
    Calls Try.prog 21 #[.int .i64 2, .pointer (some ⟨gb, 0, none⟩), .pointer (some ⟨gc, 0, none⟩), .pointer (some ⟨gi, 0, none⟩)] w fun e w' => e = .returned (.int .u8 ((f (C + (k + 2) % 4)).toNat : Int)) ∧ w = w' := at_any f C k 2 gb gc gi w hb hc hi hC hk (by omega)
theorem at_3 (f : Nat → B8) (C k gb gc gi : Nat) (w : World) (hb : Bx w gb (ba 16 f) 23) (hc : Bx w gc #[.int .i64 (C : Int)] 3) (hi : Bx w gi #[.int .i64 (k : Int)] 3) (hC : C ≤ 12) (hk : k < 16) :
    Calls Try.prog 21 #[.int .i64 3, .pointer (some ⟨gb, 0, none⟩), .pointer (some ⟨gc, 0, none⟩), .pointer (some ⟨gi, 0, none⟩)] w fun e w' => e = .returned (.int .u8 ((f (C + (k + 3) % 4)).toNat : Int)) ∧ w = w' := at_any f C k 3 gb gc gi w hb hc hi hC hk (by omega)
theorem times_two (a : B8) (w : World) : Calls Try.prog 11 #[.int .u8 (a.toNat : Int), .int .u8 2] w fun e w' => e = .returned (.int .u8 ((tm a 2#8).toNat : Int)) ∧ w = w' := times_any a 2#8 w

/-- Which byte the closure reads; the mixing of a block. -/
def ix (k n : Nat) : Nat := 4 * (k / 4) + (k + n) % 4
def mx (f : Nat → B8) : Nat → B8 := fun k => ((tm (f (ix k 0)) 2#8 ^^^ tm (f (ix k 1)) 3#8) ^^^ f (ix k 2)) ^^^ f (ix k 3)
def mk (f : Nat → B8) (k : Nat) : Nat → B8 := fun i => if i < k then mx f i else 0#8
theorem mk_step (f : Nat → B8) (k : Nat) : upd (mk f k) k (mx f k) = mk f (k + 1) := by
  funext i
  unfold upd mk
  by_cases e : i = k
  · subst e
    rw [if_pos rfl, if_pos (by omega)]
  · rw [if_neg e]
    by_cases h1 : i < k
    · rw [if_pos h1, if_pos (by omega)]
    · rw [if_neg h1, if_neg (by omega)]
theorem not_three : ∀ k : Fin 16, bits .andNot .i64 ((k.val : Nat) : Int) 3 = ((4 * (k.val / 4) : Nat) : Int) := by decide +kernel

def MixRel (f : Nat → B8) (w0 : World) (g : Nat) (i : Value) (wr : World) : Prop :=
  ∃ k : Nat, k ≤ 16 ∧ i = .int .i64 (k : Int) ∧ Bx wr g (ba 16 f) 23 ∧ Bx wr (g + 1) (ba 16 fun _ => 0#8) 23 ∧ Bx wr (g + 1 + 1) (ba 16 (mk f k)) 23 ∧ Below w0.heap.size w0 wr ∧ w0.heap.size ≤ g

set_option maxRecDepth 30000 in
set_option maxHeartbeats 4000000 in
theorem mixed_any (f : Nat → B8) (w : World) : Calls Try.prog 18 #[.agg (ba 16 f)] w fun e w' => e = .returned (.agg (ba 16 (mx f))) ∧ Below w.heap.size w w' := by
  have hz := zero23
  go_enter Try.func18, Try.ntmps18
  go_wp2
  rw [ba_zero]
  obtain ⟨G, hG⟩ : ∃ G, G = w.heap.size := ⟨_, rfl⟩
  have B0 : Bx (((w.alloc (.cells (ba 16 f) 23)).alloc (.cells (ba 16 fun _ => 0#8) 23)).alloc (.cells (ba 16 fun _ => 0#8) 23)) G (ba 16 f) 23 := hG ▸ old_of (old_of (new_of w _ _) _) _
  have B1 : Bx (((w.alloc (.cells (ba 16 f) 23)).alloc (.cells (ba 16 fun _ => 0#8) 23)).alloc (.cells (ba 16 fun _ => 0#8) 23)) (G + 1) (ba 16 fun _ => 0#8) 23 := by
    have t := old_of (new_of (w.alloc (.cells (ba 16 f) 23)) (ba 16 fun _ => 0#8) 23) (.cells (ba 16 fun _ => 0#8) 23)
    rw [show (w.alloc (.cells (ba 16 f) 23)).heap.size = G + 1 by simp [hG]] at t
    exact t
  have B2 : Bx (((w.alloc (.cells (ba 16 f) 23)).alloc (.cells (ba 16 fun _ => 0#8) 23)).alloc (.cells (ba 16 fun _ => 0#8) 23)) (G + 1 + 1) (ba 16 fun _ => 0#8) 23 := by
    have t := new_of ((w.alloc (.cells (ba 16 f) 23)).alloc (.cells (ba 16 fun _ => 0#8) 23)) (ba 16 fun _ => 0#8) 23
    rw [show ((w.alloc (.cells (ba 16 f) 23)).alloc (.cells (ba 16 fun _ => 0#8) 23)).heap.size = G + 1 + 1 by simp [hG]] at t
    exact t
  have HB : Below w.heap.size w (((w.alloc (.cells (ba 16 f) 23)).alloc (.cells (ba 16 fun _ => 0#8) 23)).alloc (.cells (ba 16 fun _ => 0#8) 23)) := (((Below.refl _ _).alloc (Nat.le_refl _) _).alloc (by simp) _).alloc (by simp; omega) _
  rw [← hG]
  have S0 : MixRel f w G (.int .i64 0) (((w.alloc (.cells (ba 16 f) 23)).alloc (.cells (ba 16 fun _ => 0#8) 23)).alloc (.cells (ba 16 fun _ => 0#8) 23)) := ⟨0, by omega, rfl, B0, B1, (ba_congr 16 (fun _ => 0#8) (mk f 0) (fun i _ => by simp [mk])) ▸ B2, HB, Nat.le_of_eq hG.symm⟩
  clear B0 B1 B2 HB hz
  generalize ((w.alloc (.cells (ba 16 f) 23)).alloc (.cells (ba 16 fun _ => 0#8) 23)).alloc (.cells (ba 16 fun _ => 0#8) 23) = W1 at *
  clear hG
  go_loopw [7] (fun i wr => MixRel f w G i wr) (fun i _ => 16 - (RowKit.intOf i).toNat)
  case atStart => exact S0
  case round =>
    obtain ⟨k, hk, rfl, b0, b1, b2, hb, hg⟩ := hrel
    clear S0
    by_cases h16 : k < 16
    · have hkn : bits .andNot .i64 (k : Int) 3 = ((4 * (k / 4) : Nat) : Int) := not_three ⟨k, h16⟩
      have hk16 : (k : Int) < 16 := by omega
      have hmf : ∀ (fn : Fn) (first cap : Array Value) (w : World), (Instr.makeFunc fn first cap).run Try.prog w = .ok (.func fn first cap) w := fun _ _ _ _ => rfl
      obtain ⟨C, hC⟩ : ∃ C, 4 * (k / 4) = C := ⟨_, rfl⟩
      rw [hC] at hkn
      have HC := Aside0.mk hC
      have H0 := Aside0.mk b0
      have H1 := Aside0.mk b1
      have H2 := Aside0.mk b2
      have HW := Aside0.mk hb
      have HG := Aside0.mk hg
      have HK := Aside0.mk h16
      clear hk b0 b1 b2 hb hg h16 hC
      go_wp2
      obtain ⟨gi, hgi⟩ : ∃ gi, wr.heap.size = gi := ⟨_, rfl⟩
      have I0 : Bx ((wr.alloc (.cells #[.int .i64 (k : Int)] 3)).alloc (.cells #[.int .i64 (C : Int)] 3)) gi #[.int .i64 (k : Int)] 3 := hgi ▸ old_of (new_of wr _ _) _
      have I1 : Bx ((wr.alloc (.cells #[.int .i64 (k : Int)] 3)).alloc (.cells #[.int .i64 (C : Int)] 3)) (gi + 1) #[.int .i64 (C : Int)] 3 := by
        have t := new_of (wr.alloc (.cells #[.int .i64 (k : Int)] 3)) #[.int .i64 (C : Int)] 3
        rw [show (wr.alloc (.cells #[.int .i64 (k : Int)] 3)).heap.size = gi + 1 by simp [hgi]] at t
        exact t
      have J0 := old_of (old_of H0.out (.cells #[.int .i64 (k : Int)] 3)) (.cells #[.int .i64 (C : Int)] 3)
      have J1 := old_of (old_of H1.out (.cells #[.int .i64 (k : Int)] 3)) (.cells #[.int .i64 (C : Int)] 3)
      have J2 := old_of (old_of H2.out (.cells #[.int .i64 (k : Int)] 3)) (.cells #[.int .i64 (C : Int)] 3)
      have JW : Below w.heap.size w ((wr.alloc (.cells #[.int .i64 (k : Int)] 3)).alloc (.cells #[.int .i64 (C : Int)] 3)) := (HW.out.alloc HW.out.size _).alloc (Nat.le_trans HW.out.size (by simp)) _
      rw [hgi]
      clear hgi H0 H1 H2 HW hkn hmf
      generalize (wr.alloc (.cells #[.int .i64 (k : Int)] 3)).alloc (.cells #[.int .i64 (C : Int)] 3) = W5 at *
      have hC12 : C ≤ 12 := by
        have := HC.out
        have := HK.out
        omega
      have hk := HK.out
      have eix : ∀ n, C + (k + n) % 4 = ix k n := fun n => by rw [← HC.out]; rfl
      have A0 := at_0 f C k G (gi + 1) gi W5.drew J0 I1 I0 hC12 hk
      have A1 := at_1 f C k G (gi + 1) gi W5.drew J0 I1 I0 hC12 hk
      have A2 := at_2 f C k G (gi + 1) gi W5.drew J0 I1 I0 hC12 hk
      have A3 := at_3 f C k G (gi + 1) gi W5.drew J0 I1 I0 hC12 hk
      rw [eix] at A0 A1 A2 A3
      have hv : mx f k = ((tm (f (ix k 0)) 2#8 ^^^ tm (f (ix k 1)) 3#8) ^^^ f (ix k 2)) ^^^ f (ix k 3) := rfl
      have HN := put_of J2 k (.int .u8 ((mx f k).toNat : Int)) (ba_set 16 (mk f k) k (mx f k))
      rw [mk_step, hv] at HN
      obtain ⟨y0, h0⟩ : ∃ y, f (ix k 0) = y := ⟨_, rfl⟩
      obtain ⟨y1, h1⟩ : ∃ y, f (ix k 1) = y := ⟨_, rfl⟩
      obtain ⟨y2, h2⟩ : ∃ y, f (ix k 2) = y := ⟨_, rfl⟩
      obtain ⟨y3, h3⟩ : ∃ y, f (ix k 3) = y := ⟨_, rfl⟩
      rw [h0, h1, h2, h3] at HN
      rw [h0] at A0
      rw [h1] at A1
      rw [h2] at A2
      rw [h3] at A3
      have T2 := times_two y0 W5.drew
      have T3 := times_three y1 W5.drew
      obtain ⟨p2, hp2⟩ : ∃ p, tm y0 2#8 = p := ⟨_, rfl⟩
      obtain ⟨p3, hp3⟩ : ∃ p, tm y1 3#8 = p := ⟨_, rfl⟩
      rw [hp2, hp3] at HN
      rw [hp2] at T2
      rw [hp3] at T3
      have x1 := xor_b8 p2 p3
      have x2 := xor_b8 (p2 ^^^ p3) y2
      have x3 := xor_b8 ((p2 ^^^ p3) ^^^ y2) y3
      obtain ⟨q1, hq1⟩ : ∃ q, p2 ^^^ p3 = q := ⟨_, rfl⟩
      rw [hq1] at HN x1 x2 x3
      obtain ⟨q2, hq2⟩ : ∃ q, q1 ^^^ y2 = q := ⟨_, rfl⟩
      rw [hq2] at HN x2 x3
      obtain ⟨q3, hq3⟩ : ∃ q, q2 ^^^ y3 = q := ⟨_, rfl⟩
      rw [hq3] at HN x3
      have ZA0 := Aside0.mk A0
      have ZA1 := Aside0.mk A1
      have ZA2 := Aside0.mk A2
      have ZA3 := Aside0.mk A3
      have ZT2 := Aside0.mk T2
      have ZT3 := Aside0.mk T3
      have c0 : W5.cell? ⟨gi, 0, none⟩ = some (.int .i64 (k : Int)) := (cell_of I0 0).trans rfl
      have f0 := frozen_of I0 0
      have c2 : W5.cell? ⟨G + 1 + 1, k, none⟩ = some (.int .u8 ((mk f k k).toNat : Int)) := (cell_of J2 k).trans (ba_get 16 _ k hk)
      have f2 := frozen_of J2 k
      have ZN := Aside0.mk HN
      have Z0 := Aside0.mk (far_of J0 (a := ⟨G + 1 + 1, k, none⟩) (by show G ≠ G + 1 + 1; omega) (.int .u8 (q3.toNat : Int)))
      have Z1 := Aside0.mk (far_of J1 (a := ⟨G + 1 + 1, k, none⟩) (by show G + 1 ≠ G + 1 + 1; omega) (.int .u8 (q3.toNat : Int)))
      have ZW : Aside0 (Below w.heap.size w (W5.setCell ⟨G + 1 + 1, k, none⟩ (.int .u8 (q3.toNat : Int)))) := ⟨JW.setCell (Nat.le_succ_of_le (Nat.le_succ_of_le HG.out)) _⟩
      clear A0 A1 A2 A3 T2 T3 HN J0 J1 J2 JW I0 I1 h0 h1 h2 h3 hp2 hp3 hq1 hq2 hq3 hv eix hC12
      go_region_with (first
        | ((go_at_call 21; with_reducible refine (ZA0.out).mono ?_); rintro e w' ⟨rfl, rfl⟩)
        | ((go_at_call 21; with_reducible refine (ZA1.out).mono ?_); rintro e w' ⟨rfl, rfl⟩)
        | ((go_at_call 21; with_reducible refine (ZA2.out).mono ?_); rintro e w' ⟨rfl, rfl⟩)
        | ((go_at_call 21; with_reducible refine (ZA3.out).mono ?_); rintro e w' ⟨rfl, rfl⟩)
        | ((go_at_call 11; with_reducible refine (ZT2.out).mono ?_); rintro e w' ⟨rfl, rfl⟩)
        | ((go_at_call 11; with_reducible refine (ZT3.out).mono ?_); rintro e w' ⟨rfl, rfl⟩))
      all_goals
        go_wp2
        go_roundw
        case rel => exact ⟨k + 1, by have := HK.out; omega, by go_num, Z0.out, Z1.out, ZN.out, ZW.out.drew, HG.out⟩
        case measure =>
          have := HK.out
          simp [RowKit.intOf]
          omega
    · obtain rfl : k = 16 := by omega
      have hx16 : ba 16 (mk f 16) = ba 16 (mx f) := ba_congr 16 _ _ (fun i hi => by unfold mk; rw [if_pos hi])
      rw [hx16] at b2
      have info23 : (Try.prog.info? 23).map (·.size) = some (ba 16 (mx f)).size := by rw [ba_size]; kernel_rfl
      have HI := Aside0.mk info23
      have HU := Aside0.mk Try.underlying23
      have H1 := Aside0.mk b1
      have H2 := Aside0.mk b2
      have HW := Aside0.mk hb
      have HG := Aside0.mk hg
      clear h16 hk b0 b1 b2 hb hg info23
      go_wp2_with (first
        | (refine wpList_load_row rfl 23 _ rfl (G + 1 + 1) rfl 23 (ba 16 (mx f)) (0, 0) _ H2.out HU.out rfl HI.out ?_)
        | (refine wpList_store_row rfl 23 _ _ rfl (G + 1) (ba 16 (mx f)) rfl rfl 23 (ba 16 fun _ => 0#8) H1.out HI.out (by rw [ba_size, ba_size]) (ba_one _ _) ?_))
      refine bodyPost_ret (results_cell_row rfl _ _ (G + 1) 23 (ba 16 (mx f)) (0, 0) _ rfl (row_of H1.out _) HU.out rfl HI.out) rfl ⟨rfl, ?_⟩
      exact below_setRow HW.out (by have := HG.out; omega) _
end Go.Proofs.Ytiblkbkdfebfbaa.Aes
