/- Box: its contract: what the table holds, round by round. No conditions. -/
import Derived.Test.YtiblkbkdfebfbaaMyArr
namespace Go.Proofs.Ytiblkbkdfebfbaa.Aes
open Go.RowKit Go.Proofs.Ytiblkbkdfebfbaa.Own

theorem or_b8 (a b : B8) : Go.bits .or .u8 (a.toNat : Int) (b.toNat : Int) = ((a ||| b).toNat : Int) := by
  have h := (bits_nat .u8 8 (by decide) (fun n h0 h1 => by rw [IntKind.wrap_u8]; omega) a.toNat b.toNat (b8_lt a) (b8_lt b)).2
  rw [BitVec.toNat_or]
  exact h

theorem rot_nat (q : B8) (k m d : Nat) (hm : m = 2 ^ k) (hd : d = 2 ^ (8 - k)) (hk : k < 8) : Go.bits .or .u8 ((q.toNat : Int) * m % 256) ((q.toNat : Int) / d) = ((rot q k).toNat : Int) := by
  have e1 : (q.toNat : Int) * m % 256 = ((q <<< k).toNat : Int) := by
    rw [BitVec.toNat_shiftLeft, Nat.shiftLeft_eq, hm]
    omega
  have e2 : (q.toNat : Int) / d = ((q >>> (8 - k)).toNat : Int) := by
    rw [BitVec.toNat_ushiftRight, Nat.shiftRight_eq_div_pow, hd]
    omega
  rw [e1, e2, or_b8]
  unfold rot
  rw [BitVec.rotateLeft_def, Nat.mod_eq_of_lt hk]

theorem rot_any (q : B8) (k : Nat) (h1 : 1 ≤ k) (h4 : k ≤ 4) (w : World) : Calls Try.prog 19 #[.int .u8 (q.toNat : Int), .int .i64 (k : Int)] w fun e w' => e = .returned (.int .u8 ((rot q k).toNat : Int)) ∧ w = w' := by
  obtain rfl | rfl | rfl | rfl : k = 1 ∨ k = 2 ∨ k = 3 ∨ k = 4 := by omega
  · have hb : bits BinOp.and IntKind.u64 1 7 = 1 := by decide +kernel
    have hr := rot_nat q 1 2 128 rfl rfl (by omega)
    go_enter Try.func19, Try.ntmps19
    go_wp2
    go_ret
    exact ⟨by rw [← hr]; rfl, rfl⟩
  · have hb : bits BinOp.and IntKind.u64 2 7 = 2 := by decide +kernel
    have hr := rot_nat q 2 4 64 rfl rfl (by omega)
    go_enter Try.func19, Try.ntmps19
    go_wp2
    go_ret
    exact ⟨by rw [← hr]; rfl, rfl⟩
  · have hb : bits BinOp.and IntKind.u64 3 7 = 3 := by decide +kernel
    have hr := rot_nat q 3 8 32 rfl rfl (by omega)
    go_enter Try.func19, Try.ntmps19
    go_wp2
    go_ret
    exact ⟨by rw [← hr]; rfl, rfl⟩
  · have hb : bits BinOp.and IntKind.u64 4 7 = 4 := by decide +kernel
    have hr := rot_nat q 4 16 16 rfl rfl (by omega)
    go_enter Try.func19, Try.ntmps19
    go_wp2
    go_ret
    exact ⟨by rw [← hr]; rfl, rfl⟩

/-- The sum of q's turns, up to so many. -/
def cq (q : B8) : Nat → B8
  | 0 => q
  | m + 1 => cq q m ^^^ rot q (m + 1)

/-- What the table holds behind k rounds. -/
def outF : Nat → Nat → B8
  | 0 => upd (fun _ => 0#8) 0 99#8
  | k + 1 => upd (outF k) (pq (k + 1)).1.toNat (cq (pq (k + 1)).2 4 ^^^ 99#8)

def goesOn : Nat → B8 → Bool
  | 0, p => p == 1#8
  | n + 1, p => p != 1#8 && goesOn n (tm p 3#8)
theorem goesOn_spec : ∀ (n j : Nat), goesOn n (pq j).1 = true → (∀ i, i < n → (pq (j + i)).1 ≠ 1#8) ∧ (pq (j + n)).1 = 1#8
  | 0, j, h => ⟨fun i hi => by omega, by simpa [goesOn] using h⟩
  | n + 1, j, h => by
    simp only [goesOn, Bool.and_eq_true, bne_iff_ne] at h
    obtain ⟨h1, h2⟩ := goesOn_spec n (j + 1) h.2
    refine ⟨fun i hi => ?_, by rw [show j + (n + 1) = j + 1 + n by omega]; exact h2⟩
    cases i with
    | zero => exact h.1
    | succ i => rw [show j + (i + 1) = j + 1 + i by omega]; exact h1 i (by omega)
theorem pq_run : goesOn 254 (pq 1).1 = true := by decide +kernel
theorem pq_on (k : Nat) (h : k < 254) : (pq (k + 1)).1 ≠ 1#8 := by
  have := (goesOn_spec 254 1 pq_run).1 k h
  rwa [Nat.add_comm] at this
theorem pq_end : (pq 255).1 = 1#8 := (goesOn_spec 254 1 pq_run).2

theorem zero26 (w : World) : (zeroValue 26).run Try.prog w = .ok (.agg (Array.replicate 256 (.int .u8 0))) w := by kernel_rfl

theorem times_three (a : B8) (w : World) : Calls Try.prog 11 #[.int .u8 (a.toNat : Int), .int .u8 3] w fun e w' => e = .returned (.int .u8 ((tm a 3#8).toNat : Int)) ∧ w = w' := times_any a 3#8 w
theorem times_back (a : B8) (w : World) : Calls Try.prog 11 #[.int .u8 (a.toNat : Int), .int .u8 246] w fun e w' => e = .returned (.int .u8 ((tm a 246#8).toNat : Int)) ∧ w = w' := times_any a 246#8 w

def BoxRel (w0 : World) (g : Nat) (gk : Nat) (p q : Value) (wr : World) : Prop :=
  ∃ k : Nat, k < 255 ∧ gk = 255 - k ∧ p = .int .u8 ((pq k).1.toNat : Int) ∧ q = .int .u8 ((pq k).2.toNat : Int) ∧ Bx wr (g + 1) (ba 256 (outF k)) 26 ∧ Bx wr g (ba 256 fun _ => 0#8) 26 ∧ Below w0.heap.size w0 wr

set_option maxRecDepth 30000 in
set_option maxHeartbeats 4000000 in
theorem box_any (w : World) : Calls Try.prog 10 #[] w fun e w' => e = .returned (.agg (ba 256 (outF 255))) ∧ Below w.heap.size w w' := by
  have hz := zero26
  go_enter Try.func10, Try.ntmps10
  go_wp2
  go_step3
  go_wp2
  go_step3
  go_wp2
  have e0 : (Array.replicate 256 (Value.int .u8 0)).setIfInBounds 0 (.int .u8 99) = ba 256 (outF 0) := by
    rw [ba_zero]
    exact ba_set 256 (fun _ => 0#8) 0 99#8
  rw [e0]
  have BG := new_of (w.alloc (.cells (Array.replicate 256 (.int .u8 0)) 26)) (ba 256 (outF 0)) 26
  rw [show (w.alloc (.cells (Array.replicate 256 (.int .u8 0)) 26)).heap.size = w.heap.size + 1 by simp] at BG
  have BZ := old_of (new_of w (Array.replicate 256 (.int .u8 0)) 26) (.cells (ba 256 (outF 0)) 26)
  rw [ba_zero] at BG BZ
  rw [ba_zero]
  have HB : Below w.heap.size w ((w.alloc (.cells (ba 256 fun _ => 0#8) 26)).alloc (.cells (ba 256 (outF 0)) 26)) := ((Below.refl _ _).alloc (Nat.le_refl _) _).alloc (by simp) _
  have S0 : BoxRel w w.heap.size 255 (.int .u8 1) (.int .u8 1) ((w.alloc (.cells (ba 256 fun _ => 0#8) 26)).alloc (.cells (ba 256 (outF 0)) 26)) := ⟨0, by omega, rfl, rfl, rfl, BG, BZ, HB⟩
  clear BG BZ HB e0 hz
  generalize (w.alloc (.cells (ba 256 fun _ => 0#8) 26)).alloc (.cells (ba 256 (outF 0)) 26) = W1 at *
  obtain ⟨G, hG⟩ : ∃ G, G = w.heap.size := ⟨_, rfl⟩
  rw [← hG] at S0 ⊢
  have HG : Aside0 (w.heap.size ≤ G) := ⟨Nat.le_of_eq hG.symm⟩
  clear hG
  go_loopg [2, 3] 255 (fun gk p q wr => BoxRel w G gk p q wr)
  case atStart => exact S0
  case round =>
    obtain ⟨k, hk, rfl, rfl, rfl, bg, bz, hb⟩ := hrel
    have e1 : tm (pq k).1 3#8 = (pq (k + 1)).1 := rfl
    have e2 : tm (pq k).2 246#8 = (pq (k + 1)).2 := rfl
    have T1 := times_three (pq k).1
    have T2 := times_back (pq k).2
    rw [e1] at T1
    rw [e2] at T2
    clear e1 e2
    have hx : outF (k + 1) = upd (outF k) (pq (k + 1)).1.toNat (cq (pq (k + 1)).2 4 ^^^ 99#8) := rfl
    have hon := pq_on k
    have hend : k = 254 → (pq (k + 1)).1 = 1#8 := fun h => by rw [h]; exact pq_end
    obtain ⟨p', hp1⟩ : ∃ p', (pq (k + 1)).1 = p' := ⟨_, rfl⟩
    obtain ⟨q', hq1⟩ : ∃ q', (pq (k + 1)).2 = q' := ⟨_, rfl⟩
    obtain ⟨v, hv⟩ : ∃ v, cq q' 4 ^^^ 99#8 = v := ⟨_, rfl⟩
    rw [hp1] at T1 hx hon hend
    rw [hq1] at T2 hx
    rw [hv] at hx
    have HP := Aside0.mk hp1
    have HQ := Aside0.mk hq1
    have HV := Aside0.mk hv
    clear hp1 hq1 hv
    have HT1 := Aside0.mk T1
    have HT2 := Aside0.mk T2
    have HBG := Aside0.mk bg
    have HBZ := Aside0.mk bz
    have HBW := Aside0.mk hb
    have HX := Aside0.mk hx
    have HON := Aside0.mk hon
    have HEND := Aside0.mk hend
    clear T1 T2 bz hb hx hon hend S0
    have hp := b8_lt p'
    go_wp2_with (first
      | ((go_at_call 11; with_reducible refine (HT1.out _).mono ?_); rintro e w' ⟨rfl, rfl⟩)
      | ((go_at_call 11; with_reducible refine (HT2.out _).mono ?_); rintro e w' ⟨rfl, rfl⟩))
    go_loop [4, 5] (fun c n => ∃ m : Nat, m ≤ 4 ∧ c = .int .u8 ((cq q' m).toNat : Int) ∧ n = .int .i64 ((m + 1 : Nat) : Int)) (fun _ n => 5 - (RowKit.intOf n).toNat)
    case atStart => exact ⟨0, by omega, rfl, rfl⟩
    case round =>
      obtain ⟨m, hm, rfl, rfl⟩ := hrel
      by_cases h4 : m < 4
      · have HR := Aside0.mk (rot_any q' (m + 1) (by omega) (by omega))
        have hxx := xor_b8 (cq q' m) (rot q' (m + 1))
        have hn : ((m + 1 : Nat) : Int) ≤ 4 := by omega
        obtain ⟨z, hz⟩ : ∃ z, z = m + 1 := ⟨_, rfl⟩
        rw [← hz] at HR hxx hn ⊢
        have hc : cq q' z = cq q' m ^^^ rot q' z := by rw [hz]; rfl
        rw [← hc] at hxx
        have HZ := Aside0.mk hz
        clear hz hc
        go_wp2_with ((go_at_call 19; with_reducible refine (HR.out _).mono ?_); rintro e w' ⟨rfl, rfl⟩)
        go_round
        case rel => exact ⟨z, by have := HZ.out; omega, rfl, by go_num⟩
        case measure => simp [RowKit.intOf]; omega
      · obtain rfl : m = 4 := by omega
        have hxx : Go.bits .xor .u8 ((cq q' 4).toNat : Int) 99 = (v.toNat : Int) := by rw [← HV.out]; exact xor_b8 (cq q' 4) 99#8
        have hc := (cell_of bg p'.toNat).trans (ba_get 256 (outF k) p'.toNat hp)
        have hf := frozen_of bg p'.toNat
        have hpi : (p'.toNat : Int) < 256 := by omega
        have HN := Aside0.mk (put_of HBG.out p'.toNat (.int .u8 (v.toNat : Int)) (ba_set 256 (outF k) p'.toNat v))
        have HM := Aside0.mk (far_of HBZ.out (a := ⟨G + 1, p'.toNat, none⟩) (Nat.ne_of_lt (Nat.lt_succ_self _)) (.int .u8 (v.toNat : Int)))
        have HW : Aside0 (Below w.heap.size w (wr.setCell ⟨G + 1, p'.toNat, none⟩ (.int .u8 (v.toNat : Int)))) := ⟨HBW.out.setCell (Nat.le_succ_of_le HG.out) _⟩
        rw [← HX.out] at HN
        clear bg
        by_cases hk4 : k = 254
        · have h1 := HEND.out hk4
          have hne : ((p'.toNat : Int) == 1) = true := by
            rw [h1]
            rfl
          subst hk4
          have info26 : (Try.prog.info? 26).map (·.size) = some (ba 256 (outF (254 + 1))).size := by rw [ba_size]; kernel_rfl
          have HI := Aside0.mk info26
          have HU := Aside0.mk Try.underlying26
          clear h4 hm h1 info26
          go_wp2_with (first
            | (refine wpList_load_row rfl 26 _ rfl (G + 1) rfl 26 (ba 256 (outF (254 + 1))) (0, 0) _ HN.out HU.out rfl HI.out ?_)
            | (refine wpList_store_row rfl 26 _ _ rfl G (ba 256 (outF (254 + 1))) rfl rfl 26 (ba 256 fun _ => 0#8) HM.out HI.out (by rw [ba_size, ba_size]) (ba_one _ _) ?_))
          refine bodyPost_ret (results_cell_row rfl _ _ G 26 (ba 256 (outF (254 + 1))) (0, 0) _ rfl (row_of HM.out _) HU.out rfl HI.out) rfl ⟨rfl, ?_⟩
          exact below_setRow HW.out HG.out _
        · have hne : ((p'.toNat : Int) == 1) = false := by
            refine beq_eq_false_iff_ne.2 (fun e => HON.out (by omega) (BitVec.eq_of_toNat_eq ?_))
            show p'.toNat = 1
            omega
          have HK : Aside0 (k + 1 < 255) := ⟨by omega⟩
          have hm1 : 255 - (k + 1) < 255 - k := by omega
          clear hk4 h4 hm hk
          go_wp2
          go_roundg (255 - (k + 1))
          case measure => exact hm1
          case rel => exact ⟨k + 1, HK.out, rfl, by rw [HP.out], by rw [HQ.out], HN.out, HM.out, HW.out⟩
end Go.Proofs.Ytiblkbkdfebfbaa.Aes
