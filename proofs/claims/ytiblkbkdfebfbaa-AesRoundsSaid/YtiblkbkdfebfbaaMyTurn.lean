/- The key's row of cells; turned: its contract. No conditions. -/
import Derived.Test.YtiblkbkdfebfbaaMyAdd
namespace Go.Proofs.Ytiblkbkdfebfbaa.Aes
open Go.RowKit Go.Proofs.Ytiblkbkdfebfbaa.Own

/-- A key as cells: is it set, the eleven blocks of its words, its table. -/
def kc (b : Bool) (wf sf : Nat → B8) : Array Value := #[.bool b] ++ ba 176 wf ++ ba 256 sf
theorem kc_size (b : Bool) (wf sf : Nat → B8) : (kc b wf sf).size = 433 := by simp [kc, ba_size]
theorem kc_w (b : Bool) (wf sf : Nat → B8) (i : Nat) (h : i < 176) : (kc b wf sf)[1 + i]? = some (.int .u8 ((wf i).toNat : Int)) := by
  unfold kc
  rw [Array.getElem?_append_left (by simp [ba_size]; omega), Array.getElem?_append_right (by simp), ← ba_get 176 wf i h]
  simp
theorem kc_s (b : Bool) (wf sf : Nat → B8) (i : Nat) (h : i < 256) : (kc b wf sf)[177 + i]? = some (.int .u8 ((sf i).toNat : Int)) := by
  unfold kc
  rw [Array.getElem?_append_right (by simp [ba_size]), ← ba_get 256 sf i h]
  simp [ba_size]

/-- Where the turning takes its byte from. -/
def ti (k : Nat) : Nat := (k + 4 * (k % 4)) % 16
def tu (sf f : Nat → B8) : Nat → B8 := fun i => sf (f (ti i)).toNat
def tk (sf f : Nat → B8) (k : Nat) : Nat → B8 := fun i => if i < k then tu sf f i else 0#8
theorem tk_step (sf f : Nat → B8) (k : Nat) : upd (tk sf f k) k (tu sf f k) = tk sf f (k + 1) := by
  funext i
  unfold upd tk
  by_cases e : i = k
  · subst e
    rw [if_pos rfl, if_pos (by omega)]
  · rw [if_neg e]
    by_cases h1 : i < k
    · rw [if_pos h1, if_pos (by omega)]
    · rw [if_neg h1, if_neg (by omega)]

def TurnRel (b : Bool) (wf sf f : Nat → B8) (p : Nat) (w0 : World) (g : Nat) (i : Value) (wr : World) : Prop :=
  ∃ k : Nat, k ≤ 16 ∧ i = .int .i64 (k : Int) ∧ Bx wr p (kc b wf sf) 28 ∧ Bx wr g (ba 16 f) 23 ∧ Bx wr (g + 1) (ba 16 fun _ => 0#8) 23 ∧ Bx wr (g + 1 + 1) (ba 16 (tk sf f k)) 23 ∧ Below w0.heap.size w0 wr ∧ w0.heap.size ≤ g

set_option maxRecDepth 30000 in
set_option maxHeartbeats 4000000 in
theorem turned_any (b : Bool) (wf sf f : Nat → B8) (p : Nat) (w : World) (hp : Bx w p (kc b wf sf) 28) : Calls Try.prog 17 #[.pointer (some ⟨p, 0, none⟩), .agg (ba 16 f)] w fun e w' => e = .returned (.agg (ba 16 (tu sf f))) ∧ Below w.heap.size w w' := by
  have hz := zero23
  have HP := Aside0.mk hp
  clear hp
  go_enter Try.func17, Try.ntmps17
  go_wp2
  rw [ba_zero]
  obtain ⟨G, hG⟩ : ∃ G, G = w.heap.size := ⟨_, rfl⟩
  have B0 : Bx (((w.alloc (.cells (ba 16 f) 23)).alloc (.cells (ba 16 fun _ => 0#8) 23)).alloc (.cells (ba 16 fun _ => 0#8) 23)) G (ba 16 f) 23 := hG ▸ old_of (old_of (new_of w _ _) _) _
  have B1 : Bx (((w.alloc (.cells (ba 16 f) 23)).alloc (.cells (ba 16 fun _ => 0#8) 23)).alloc (.cells (ba 16 fun _ => 0#8) 23)) (G + 1) (ba 16 fun _ => 0#8) 23 := by
    have t := old_of (new_of (w.alloc (.cells (ba 16 f) 23)) (ba 16 fun _ => 0#8) 23) (.cells (ba 16 fun _ => 0#8) 23)
    rw [show (w.alloc (.cells (ba 16 f) 23)).heap.size = G + 1 by simp [hG]] at t
    exact t
  have B2 : Bx (((w.alloc (.cells (ba 16 f) 23)).alloc (.cells (ba 16 fun _ => 0#8) 23)).alloc (.cells (ba 16 fun _ => 0#8) 23)) (G + 1 + 1) (ba 16 fun _ => 0#8) 23 := by
    have t := new_of ((w.alloc (.cells (ba 16 f) 23)).alloc (.cells (ba 16 fun _ => 0#8) 23)) (ba 16 fun _ => 0#8) 23
    rw [show ((w.alloc (.cells (ba 16 f) 23)).alloc (.cells (ba 16 fun _ => 0#8) 23)).heap.size = G + 1 + 1 by simp [hG]] at t
    exact t
  have B3 : Bx (((w.alloc (.cells (ba 16 f) 23)).alloc (.cells (ba 16 fun _ => 0#8) 23)).alloc (.cells (ba 16 fun _ => 0#8) 23)) p (kc b wf sf) 28 := old_of (old_of (old_of HP.out _) _) _
  have HB : Below w.heap.size w (((w.alloc (.cells (ba 16 f) 23)).alloc (.cells (ba 16 fun _ => 0#8) 23)).alloc (.cells (ba 16 fun _ => 0#8) 23)) := (((Below.refl _ _).alloc (Nat.le_refl _) _).alloc (by simp) _).alloc (by simp; omega) _
  have hpG : p < G := hG ▸ lt_of HP.out
  rw [← hG]
  have S0 : TurnRel b wf sf f p w G (.int .i64 0) (((w.alloc (.cells (ba 16 f) 23)).alloc (.cells (ba 16 fun _ => 0#8) 23)).alloc (.cells (ba 16 fun _ => 0#8) 23)) := ⟨0, by omega, rfl, B3, B0, B1, (ba_congr 16 (fun _ => 0#8) (tk sf f 0) (fun i _ => by simp [tk])) ▸ B2, HB, Nat.le_of_eq hG.symm⟩
  clear B0 B1 B2 B3 HB hz HP
  generalize ((w.alloc (.cells (ba 16 f) 23)).alloc (.cells (ba 16 fun _ => 0#8) 23)).alloc (.cells (ba 16 fun _ => 0#8) 23) = W1 at *
  clear hG
  go_loopw [7] (fun i wr => TurnRel b wf sf f p w G i wr) (fun i _ => 16 - (RowKit.intOf i).toNat)
  case atStart => exact S0
  case round =>
    obtain ⟨k, hk, rfl, b3, b0, b1, b2, hb, hg⟩ := hrel
    clear S0
    by_cases h16 : k < 16
    · have hti : ti k < 16 := Nat.mod_lt _ (by omega)
      have hc0 : wr.cell? ⟨G, (k + 4 * (k % 4)) % 16, none⟩ = some (.int .u8 ((f (ti k)).toNat : Int)) := (cell_of b0 (ti k)).trans (ba_get 16 f (ti k) hti)
      have hf0 := frozen_of b0 ((k + 4 * (k % 4)) % 16)
      have hs := b8_lt (f (ti k))
      have hc1 := (cell_of b3 (177 + (f (ti k)).toNat)).trans (kc_s b wf sf (f (ti k)).toNat hs)
      have hv : tu sf f k = sf (f (ti k)).toNat := rfl
      obtain ⟨v, hvv⟩ : ∃ v, tu sf f k = v := ⟨_, rfl⟩
      rw [← hv, hvv] at hc1
      have hc2 : wr.cell? ⟨G + 1 + 1, k, none⟩ = some (.int .u8 ((tk sf f k k).toNat : Int)) := (cell_of b2 k).trans (ba_get 16 _ k h16)
      have hf2 := frozen_of b2 k
      have hk16 : (k : Int) < 16 := by omega
      have HN := Aside0.mk (put_of b2 k (.int .u8 (v.toNat : Int)) (ba_set 16 (tk sf f k) k v))
      rw [← hvv, tk_step, hvv] at HN
      have H0 := Aside0.mk (far_of b0 (a := ⟨G + 1 + 1, k, none⟩) (by show G ≠ G + 1 + 1; omega) (.int .u8 (v.toNat : Int)))
      have H1 := Aside0.mk (far_of b1 (a := ⟨G + 1 + 1, k, none⟩) (by show G + 1 ≠ G + 1 + 1; omega) (.int .u8 (v.toNat : Int)))
      have H3 := Aside0.mk (far_of b3 (a := ⟨G + 1 + 1, k, none⟩) (by show p ≠ G + 1 + 1; omega) (.int .u8 (v.toNat : Int)))
      have HW : Aside0 (Below w.heap.size w (wr.setCell ⟨G + 1 + 1, k, none⟩ (.int .u8 (v.toNat : Int)))) := ⟨hb.setCell (Nat.le_succ_of_le (Nat.le_succ_of_le hg)) _⟩
      have HG := Aside0.mk hg
      have HK := Aside0.mk h16
      obtain ⟨y, hy⟩ : ∃ y, f (ti k) = y := ⟨_, rfl⟩
      rw [hy] at hc0 hc1 hs
      clear hk b0 b1 b2 b3 hb hg h16 hv hvv hy hti
      go_wp2
      go_region
      go_wp2
      go_roundw
      case rel => exact ⟨k + 1, by have := HK.out; omega, by go_num, H3.out, H0.out, H1.out, HN.out, HW.out.drew, HG.out⟩
      case measure =>
        have := HK.out
        simp [RowKit.intOf]
        omega
    · obtain rfl : k = 16 := by omega
      have hx16 : ba 16 (tk sf f 16) = ba 16 (tu sf f) := ba_congr 16 _ _ (fun i hi => by unfold tk; rw [if_pos hi])
      rw [hx16] at b2
      have info23 : (Try.prog.info? 23).map (·.size) = some (ba 16 (tu sf f)).size := by rw [ba_size]; kernel_rfl
      have HI := Aside0.mk info23
      have HU := Aside0.mk Try.underlying23
      have H1 := Aside0.mk b1
      have H2 := Aside0.mk b2
      have HW := Aside0.mk hb
      have HG := Aside0.mk hg
      clear h16 hk b0 b1 b2 b3 hb hg info23
      go_wp2_with (first
        | (refine wpList_load_row rfl 23 _ rfl (G + 1 + 1) rfl 23 (ba 16 (tu sf f)) (0, 0) _ H2.out HU.out rfl HI.out ?_)
        | (refine wpList_store_row rfl 23 _ _ rfl (G + 1) (ba 16 (tu sf f)) rfl rfl 23 (ba 16 fun _ => 0#8) H1.out HI.out (by rw [ba_size, ba_size]) (ba_one _ _) ?_))
      refine bodyPost_ret (results_cell_row rfl _ _ (G + 1) 23 (ba 16 (tu sf f)) (0, 0) _ rfl (row_of H1.out _) HU.out rfl HI.out) rfl ⟨rfl, ?_⟩
      exact below_setRow HW.out (by have := HG.out; omega) _
end Go.Proofs.Ytiblkbkdfebfbaa.Aes
