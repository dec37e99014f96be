/- add: its contract. No conditions. -/
import Derived.Test.YtiblkbkdfebfbaaMyBox
import Derived.BigRegion
namespace Go.Proofs.Ytiblkbkdfebfbaa.Aes
open Go.RowKit Go.Proofs.Ytiblkbkdfebfbaa.Own

theorem ba_congr (n : Nat) (f g : Nat → B8) (h : ∀ i, i < n → f i = g i) : ba n f = ba n g := by
  apply Array.ext
  · simp [ba]
  · intro j h1 h2
    simp [ba] at h1 h2
    simp [ba, h j h1]

theorem zero23 (w : World) : (zeroValue 23).run Try.prog w = .ok (.agg (Array.replicate 16 (.int .u8 0))) w := by kernel_rfl

/-- The first k of two rows, joined. -/
def xf (f h : Nat → B8) (k : Nat) : Nat → B8 := fun i => if i < k then f i ^^^ h i else f i
theorem xf_step (f h : Nat → B8) (k : Nat) : upd (xf f h k) k (xf f h k k ^^^ h k) = xf f h (k + 1) := by
  funext i
  unfold upd xf
  by_cases e : i = k
  · subst e
    rw [if_pos rfl, if_neg (by omega), if_pos (by omega)]
  · rw [if_neg e]
    by_cases h1 : i < k
    · rw [if_pos h1, if_pos (by omega)]
    · rw [if_neg h1, if_neg (by omega)]

def AddRel (f h : Nat → B8) (w0 : World) (g : Nat) (i : Value) (wr : World) : Prop :=
  ∃ k : Nat, k ≤ 16 ∧ i = .int .i64 (k : Int) ∧ Bx wr g (ba 16 (xf f h k)) 23 ∧ Bx wr (g + 1) (ba 16 h) 23 ∧ Bx wr (g + 1 + 1) (ba 16 fun _ => 0#8) 23 ∧ Below w0.heap.size w0 wr ∧ w0.heap.size ≤ g

set_option maxRecDepth 30000 in
set_option maxHeartbeats 4000000 in
theorem add_any (f h : Nat → B8) (w : World) : Calls Try.prog 16 #[.agg (ba 16 f), .agg (ba 16 h)] w fun e w' => e = .returned (.agg (ba 16 fun i => f i ^^^ h i)) ∧ Below w.heap.size w w' := by
  have hz := zero23
  go_enter Try.func16, Try.ntmps16
  go_wp2
  rw [ba_zero]
  obtain ⟨G, hG⟩ : ∃ G, G = w.heap.size := ⟨_, rfl⟩
  have B0 : Bx (((w.alloc (.cells (ba 16 f) 23)).alloc (.cells (ba 16 h) 23)).alloc (.cells (ba 16 fun _ => 0#8) 23)) G (ba 16 f) 23 := hG ▸ old_of (old_of (new_of w _ _) _) _
  have B1 : Bx (((w.alloc (.cells (ba 16 f) 23)).alloc (.cells (ba 16 h) 23)).alloc (.cells (ba 16 fun _ => 0#8) 23)) (G + 1) (ba 16 h) 23 := by
    have t := old_of (new_of (w.alloc (.cells (ba 16 f) 23)) (ba 16 h) 23) (.cells (ba 16 fun _ => 0#8) 23)
    rw [show (w.alloc (.cells (ba 16 f) 23)).heap.size = G + 1 by simp [hG]] at t
    exact t
  have B2 : Bx (((w.alloc (.cells (ba 16 f) 23)).alloc (.cells (ba 16 h) 23)).alloc (.cells (ba 16 fun _ => 0#8) 23)) (G + 1 + 1) (ba 16 fun _ => 0#8) 23 := by
    have t := new_of ((w.alloc (.cells (ba 16 f) 23)).alloc (.cells (ba 16 h) 23)) (ba 16 fun _ => 0#8) 23
    rw [show ((w.alloc (.cells (ba 16 f) 23)).alloc (.cells (ba 16 h) 23)).heap.size = G + 1 + 1 by simp [hG]] at t
    exact t
  have HB : Below w.heap.size w (((w.alloc (.cells (ba 16 f) 23)).alloc (.cells (ba 16 h) 23)).alloc (.cells (ba 16 fun _ => 0#8) 23)) := (((Below.refl _ _).alloc (Nat.le_refl _) _).alloc (by simp) _).alloc (by simp; omega) _
  rw [← hG]
  have S0 : AddRel f h w G (.int .i64 0) (((w.alloc (.cells (ba 16 f) 23)).alloc (.cells (ba 16 h) 23)).alloc (.cells (ba 16 fun _ => 0#8) 23)) := ⟨0, by omega, rfl, (ba_congr 16 f (xf f h 0) (fun i _ => by simp [xf])) ▸ B0, B1, B2, HB, Nat.le_of_eq hG.symm⟩
  clear B0 B1 B2 HB hz
  generalize ((w.alloc (.cells (ba 16 f) 23)).alloc (.cells (ba 16 h) 23)).alloc (.cells (ba 16 fun _ => 0#8) 23) = W1 at *
  clear hG
  go_loopw [6] (fun i wr => AddRel f h w G i wr) (fun i _ => 16 - (RowKit.intOf i).toNat)
  case atStart => exact S0
  case round =>
    obtain ⟨k, hk, rfl, b0, b1, b2, hb, hg⟩ := hrel
    clear S0
    by_cases h16 : k < 16
    · have hc0 := (cell_of b0 k).trans (ba_get 16 (xf f h k) k h16)
      have hc1 := (cell_of b1 k).trans (ba_get 16 h k h16)
      have hf0 := frozen_of b0 k
      have hf1 := frozen_of b1 k
      have hxx := xor_b8 (xf f h k k) (h k)
      have hk16 : (k : Int) < 16 := by omega
      obtain ⟨v, hv⟩ : ∃ v, xf f h k k ^^^ h k = v := ⟨_, rfl⟩
      rw [hv] at hxx
      have HN := Aside0.mk (put_of b0 k (.int .u8 (v.toNat : Int)) (ba_set 16 (xf f h k) k v))
      rw [← hv, xf_step, hv] at HN
      have HM := Aside0.mk (far_of b1 (a := ⟨G, k, none⟩) (by show G + 1 ≠ G; omega) (.int .u8 (v.toNat : Int)))
      have HL := Aside0.mk (far_of b2 (a := ⟨G, k, none⟩) (by show G + 1 + 1 ≠ G; omega) (.int .u8 (v.toNat : Int)))
      have HW : Aside0 (Below w.heap.size w (wr.setCell ⟨G, k, none⟩ (.int .u8 (v.toNat : Int)))) := ⟨hb.setCell hg _⟩
      have HG := Aside0.mk hg
      have HK := Aside0.mk h16
      clear hk b0 b1 b2 hb hg h16 hv
      go_wp2
      go_region
      go_wp2
      go_roundw
      case rel => exact ⟨k + 1, by have := HK.out; omega, by go_num, HN.out, HM.out, HL.out, HW.out.drew, HG.out⟩
      case measure =>
        have := HK.out
        simp [RowKit.intOf]
        omega
    · obtain rfl : k = 16 := by omega
      have hx16 : ba 16 (xf f h 16) = ba 16 (fun i => f i ^^^ h i) := ba_congr 16 _ _ (fun i hi => by unfold xf; rw [if_pos hi])
      rw [hx16] at b0
      have info23 : (Try.prog.info? 23).map (·.size) = some (ba 16 (fun i => f i ^^^ h i)).size := by rw [ba_size]; kernel_rfl
      have HI := Aside0.mk info23
      have HU := Aside0.mk Try.underlying23
      have H0 := Aside0.mk b0
      have H2 := Aside0.mk b2
      have HW := Aside0.mk hb
      have HG := Aside0.mk hg
      clear h16 hk b0 b1 b2 hb hg info23
      go_wp2_with (first
        | (refine wpList_load_row rfl 23 _ rfl G rfl 23 (ba 16 (fun i => f i ^^^ h i)) (0, 0) _ H0.out HU.out rfl HI.out ?_)
        | (refine wpList_store_row rfl 23 _ _ rfl (G + 1 + 1) (ba 16 (fun i => f i ^^^ h i)) rfl rfl 23 (ba 16 fun _ => 0#8) H2.out HI.out (by rw [ba_size, ba_size]) (ba_one _ _) ?_))
      refine bodyPost_ret (results_cell_row rfl _ _ (G + 1 + 1) 23 (ba 16 (fun i => f i ^^^ h i)) (0, 0) _ rfl (row_of H2.out _) HU.out rfl HI.out) rfl ⟨rfl, ?_⟩
      exact below_setRow HW.out (by have := HG.out; omega) _
end Go.Proofs.Ytiblkbkdfebfbaa.Aes
