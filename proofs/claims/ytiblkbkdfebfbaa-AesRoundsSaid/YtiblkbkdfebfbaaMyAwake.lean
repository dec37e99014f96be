/- awake: it holds. No conditions. -/
import Derived.Test.YtiblkbkdfebfbaaOwnExample
namespace Go.Proofs.Ytiblkbkdfebfbaa.Aes
open Go.RowKit Go.Proofs.Ytiblkbkdfebfbaa.Own

def bk (k : Nat) : Nat → B8 := fun i => if i < k then bf i else 0#8
theorem bk_step (k : Nat) : upd (bk k) k (bf k) = bk (k + 1) := by
  funext i
  unfold upd bk
  by_cases e : i = k
  · subst e
    rw [if_pos rfl, if_pos (by omega)]
  · rw [if_neg e]
    by_cases h1 : i < k
    · rw [if_pos h1, if_pos (by omega)]
    · rw [if_neg h1, if_neg (by omega)]

def AwRel (K : Array Value) (w0 : World) (g : Nat) (i : Value) (wr : World) : Prop :=
  ∃ k : Nat, k ≤ 16 ∧ i = .int .i64 (k : Int) ∧ Bx wr g K 28 ∧ Bx wr (g + 1) (ba 16 (bk k)) 23 ∧ Below w0.heap.size w0 wr ∧ w0.heap.size ≤ g

set_option maxRecDepth 30000 in
set_option maxHeartbeats 4000000 in
theorem awake_holds (w : World) : Calls Try.prog 6 #[] w fun e w' => e = .returned (.bool true) ∧ Below w.heap.size w w' := by
  have hnew : ∀ w, Calls Try.prog 7 #[.string ⟨#[0, 1, 2, 3, 4, 5, 6, 7, 8, 9, 10, 11, 12, 13, 14, 15]⟩] w fun e w' => e = .returned (.tuple #[.agg (kc true (wr0 (outF 255) (sb kd)) (outF 255)), .int .i64 0]) ∧ Below w.heap.size w w' := fun w => new_16 kd rfl w
  have henc := fun f w => enc_any (wr0 (outF 255) (sb kd)) (outF 255) f w
  have hx0 := example_0
  have hx1 := example_1
  have hx15 := example_15
  have hs := info28 true (wr0 (outF 255) (sb kd)) (outF 255)
  have h1 := kc_one true (wr0 (outF 255) (sb kd)) (outF 255)
  have hsz : (kc false (fun _ => 0#8) (fun _ => 0#8)).size = (kc true (wr0 (outF 255) (sb kd)) (outF 255)).size := by rw [kc_size, kc_size]
  have hz := zero28k
  obtain ⟨Z, hZ⟩ : ∃ Z, kc false (fun _ => 0#8) (fun _ => 0#8) = Z := ⟨_, rfl⟩
  rw [hZ] at hz hsz
  generalize kc true (wr0 (outF 255) (sb kd)) (outF 255) = K at *
  generalize er (wr0 (outF 255) (sb kd)) (outF 255) = E at *
  have HNEW := Aside0.mk hnew
  have HENC := Aside0.mk henc
  have HX := Aside0.mk (And.intro hx0 (And.intro hx1 hx15))
  have HS := Aside0.mk hs
  have H1 := Aside0.mk h1
  have HSZ := Aside0.mk hsz
  clear hnew henc hx0 hx1 hx15 hs h1 hsz hZ
  have hz3 : ∀ w, (zeroValue 23).run Try.prog w = .ok (.agg (ba 16 fun _ => 0#8)) w := fun w => by rw [zero23, ba_zero]
  go_enter Try.func6, Try.ntmps6
  go_wp2_with (first
    | ((go_at_call 7; with_reducible refine (HNEW.out _).mono ?_); rintro e w1 ⟨rfl, hb⟩; have HB := Aside0.mk hb; clear hb)
    | (refine wpList_store_row rfl 28 _ _ rfl w1.heap.size K rfl rfl 28 Z (new_of w1 Z 28) HS.out HSZ.out H1.out ?_))
  have sz1 : (((w1.alloc (.cells Z 28)).setRow w1.heap.size K)).heap.size = w1.heap.size + 1 := by simp
  have b0 := old_of (row_of (new_of w1 Z 28) K) (.cells (ba 16 fun _ => 0#8) 23)
  have b1 := new_of ((w1.alloc (.cells Z 28)).setRow w1.heap.size K) (ba 16 fun _ => 0#8) 23
  rw [sz1] at b1
  have hbb := (below_setRow (HB.out.alloc HB.out.size (.cells Z 28)) HB.out.size K).alloc (by simp; exact Nat.le_succ_of_le HB.out.size) (.cells (ba 16 fun _ => 0#8) 23)
  have S0 : AwRel K w w1.heap.size (.int .i64 0) (((w1.alloc (.cells Z 28)).setRow w1.heap.size K).alloc (.cells (ba 16 fun _ => 0#8) 23)) := ⟨0, by omega, rfl, b0, (ba_congr 16 (fun _ => 0#8) (bk 0) (fun i _ => by simp [bk])) ▸ b1, hbb, HB.out.size⟩
  clear sz1 b0 b1 hbb HB
  generalize ((w1.alloc (.cells Z 28)).setRow w1.heap.size K).alloc (.cells (ba 16 fun _ => 0#8) 23) = W1 at *
  generalize w1.heap.size = G at *
  have HU := Aside0.mk Try.underlying28
  have HU3 := Aside0.mk Try.underlying23
  have HI := Aside0.mk info23
  go_loopw [10] (fun i wr => AwRel K w G i wr) (fun i _ => 16 - (RowKit.intOf i).toNat)
  case atStart => exact S0
  case round =>
    obtain ⟨k, hk, rfl, b0, b1, hb, hg⟩ := hrel
    clear S0
    by_cases h16 : k < 16
    · have hk16 : (k : Int) < 16 := by omega
      have hc := (cell_of b1 k).trans (ba_get 16 _ k h16)
      have hf := frozen_of b1 k
      have hv : ((bf k).toNat : Int) = 17 * (k : Int) := by
        unfold bf
        rw [BitVec.toNat_ofNat]
        omega
      have HN := put_of b1 k (.int .u8 ((bf k).toNat : Int)) (ba_set 16 (bk k) k (bf k))
      rw [bk_step, hv] at HN
      have HN := Aside0.mk HN
      have H0 := Aside0.mk (far_of b0 (a := ⟨G + 1, k, none⟩) (by show G ≠ G + 1; omega) (.int .u8 (17 * (k : Int))))
      have HW : Aside0 (Below w.heap.size w (wr.setCell ⟨G + 1, k, none⟩ (.int .u8 (17 * (k : Int))))) := ⟨hb.setCell (Nat.le_succ_of_le hg) _⟩
      have HG := Aside0.mk hg
      have HK := Aside0.mk h16
      clear hv b0 b1 hb hg h16 hk
      go_wp2
      go_roundw
      case rel => exact ⟨k + 1, by have := HK.out; omega, by go_num, H0.out, HN.out, HW.out, HG.out⟩
      case measure =>
        have := HK.out
        simp [RowKit.intOf]
        omega
    · obtain rfl : k = 16 := by omega
      have hx16 : ba 16 (bk 16) = ba 16 bf := ba_congr 16 _ _ (fun i hi => by unfold bk; rw [if_pos hi])
      rw [hx16] at b1
      have C0 := Aside0.mk b0
      have C1 := Aside0.mk b1
      have CB := Aside0.mk hb
      have CG := Aside0.mk hg
      clear h16 hk b0 b1 hb hg hx16
      have x0 : (ba 16 (E bf 10))[0]? = some (.int .u8 105) := by rw [ba_get 16 _ 0 (by omega), HX.out.1]; rfl
      have x1 : (ba 16 (E bf 10))[1]? = some (.int .u8 196) := by rw [ba_get 16 _ 1 (by omega), HX.out.2.1]; rfl
      have x15 : (ba 16 (E bf 10))[15]? = some (.int .u8 90) := by rw [ba_get 16 _ 15 (by omega), HX.out.2.2]; rfl
      have XX := Aside0.mk (And.intro x0 (And.intro x1 x15))
      clear x0 x1 x15
      have TE := Aside0.mk (HENC.out bf)
      generalize E bf 10 = F at *
      go_wp2_with (first
        | (refine wpList_load_row rfl 28 _ rfl G rfl 28 K (0, 0) _ C0.out HU.out rfl HS.out ?_)
        | (refine wpList_load_row rfl 23 _ rfl (G + 1) rfl 23 (ba 16 bf) (0, 0) _ C1.out HU3.out rfl (HI.out _) ?_)
        | ((go_at_call 8; with_reducible refine (TE.out _).mono ?_); rintro e w2 ⟨rfl, hb⟩; have D1 := Aside0.mk (CB.out.trans (hb.mono CB.out.size)); clear hb; have N0 := Aside0.mk (new_of w2 (ba 16 fun _ => 0#8) 23); have c0 : ((w2.alloc (.cells (ba 16 fun _ => 0#8) 23)).setRow w2.heap.size (ba 16 F)).cell? ⟨w2.heap.size, 0, none⟩ = some (.int .u8 105) := (cell_of (row_of N0.out (ba 16 F)) 0).trans XX.out.1; have c1 : ((w2.alloc (.cells (ba 16 fun _ => 0#8) 23)).setRow w2.heap.size (ba 16 F)).cell? ⟨w2.heap.size, 1, none⟩ = some (.int .u8 196) := (cell_of (row_of N0.out (ba 16 F)) 1).trans XX.out.2.1; have c15 : ((w2.alloc (.cells (ba 16 fun _ => 0#8) 23)).setRow w2.heap.size (ba 16 F)).cell? ⟨w2.heap.size, 15, none⟩ = some (.int .u8 90) := (cell_of (row_of N0.out (ba 16 F)) 15).trans XX.out.2.2)
        | (refine wpList_store_row rfl 23 _ _ rfl w2.heap.size (ba 16 F) rfl rfl 23 (ba 16 fun _ => 0#8) N0.out (HI.out _) (by rw [ba_size, ba_size]) (ba_one _ _) ?_))
      go_ret
      exact ⟨rfl, below_setRow (D1.out.alloc D1.out.size _) D1.out.size _⟩
end Go.Proofs.Ytiblkbkdfebfbaa.Aes
