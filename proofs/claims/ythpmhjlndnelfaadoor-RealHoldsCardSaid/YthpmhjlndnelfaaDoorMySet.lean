/- setDigits at the digits of one half: its contract. The condition: the row of digits can be written. -/
import Derived.Test.YthpmhjlndnelfaaDoorMyEfg
import Derived.Lib.ItoaMem
namespace Go.Proofs.YthpmhjlndnelfaaDoor.Real
open Go.RowKit Go.Lib Go.Sort Go.Proofs.YthpmhjlndnelfaaDoorW.PrintWords

abbrev encB : UInt8 → Value := fun (b : UInt8) => Value.int .u8 (b.toNat : Int)

theorem below_putRow (w : World) (b off : Nat) (dk : Array UInt8) (n : Nat) : Below b w ((putRow encB w b off dk).drewN n) := by
  refine ⟨rfl, rfl, rfl, ?_, fun k hk => ?_⟩
  · show w.heap.size ≤ (putRow encB w b off dk).heap.size
    simp [putRow, mapBlock]
  · show (putRow encB w b off dk).heap[k]? = w.heap[k]?
    have : b ≠ k := by omega
    simp [putRow, mapBlock, Array.getElem?_modify, this]

def SetRes (b : Nat) (w : World) (e : Ending) (w' : World) : Prop :=
  e = .returned (.tuple #[.int .i64 0, .int .i64 1]) ∧ Below b w w' ∧ w'.cell? ⟨b, 0, none⟩ = some (.int .u8 53)

theorem dg_half : ∀ j : Fin 16, (dg 5000000000000000 (16 - 1 - j.1)).toNat = if j.1 = 0 then 53 else 48 := by decide +kernel

theorem cells_half (w : World) (b n v' : Nat) (dk : Array UInt8) (hH : Holds encB w b 0 (Array.replicate 16 0)) (hF : FmtInv 16 5000000000000000 0 v' dk) (j : Nat) (hj : j < 16) :
    ((putRow encB w b 0 dk).drewN n).cell? ⟨b, j, none⟩ = some (.int .u8 (if j = 0 then 53 else 48)) := by
  have h := cell?_putRow encB w b 0 (Array.replicate 16 0) dk hH (by rw [hF.size]; simp) j (by rw [hF.size]; exact hj)
  rw [World.cell?_drewN]
  rw [Nat.zero_add] at h
  rw [h, hF.done j (Nat.zero_le _) hj]
  have := dg_half ⟨j, hj⟩
  simp only at this
  show some (Value.int .u8 ((dg 5000000000000000 (16 - 1 - j)).toNat : Int)) = _
  rw [this]
  split <;> rfl

set_option maxHeartbeats 2000000 in
theorem set_half (w : World) (b : Nat) (hH : Holds encB w b 0 (Array.replicate 16 0)) :
    Calls Tryd.prog 91 #[.slice (some ⟨b, 0, none⟩) 32 32, .int .u64 5000000000000000, .int .i64 (-16), .int .i64 16] w fun e w' => SetRes b w e w' := by
  have hfmt := Tryd.internal_strconv_formatBase10 b 0 32 5000000000000000 (Array.replicate 16 0) w hH (by simp) (by decide) (by simp)
  rw [Array.size_replicate] at hfmt
  have HH := Aside0.mk hH
  clear hH
  go_enter Tryd.func91, Tryd.ntmps91
  go_wp2_with fail
  refine hfmt.mono ?_
  rintro e w' ⟨rfl, n, v', dk, hw, hF⟩
  have hcs : ∀ j, j < 16 → w'.cell? ⟨b, j, none⟩ = some (.int .u8 (if j = 0 then 53 else 48)) := by rw [hw]; exact fun j hj => cells_half w b n v' dk HH.out hF j hj
  have hbs : Below b w w' := by rw [hw]; exact below_putRow w b 0 dk n
  have HC := Aside0.mk hcs
  have HB := Aside0.mk hbs
  clear hw hF HH hfmt hcs hbs
  go_wp2
  go_loop [3] (fun i => ∃ m : Nat, m ≤ 15 ∧ i = .int .i64 ((m : Int) + 1)) (fun i => (RowKit.intOf i).toNat)
  case atStart => exact ⟨15, by omega, rfl⟩
  case round =>
    obtain ⟨m, hm, rfl⟩ := hrel
    by_cases h0 : m = 0
    · subst h0
      have hc := HC.out 0 (by omega)
      rw [if_pos rfl] at hc
      go_wp2
      go_ret2
      exact ⟨rfl, HB.out, hc⟩
    · have hc := HC.out m (by omega)
      rw [if_neg h0] at hc
      go_wp2
      go_round
      case rel => exact ⟨m - 1, by omega, by go_num⟩
      case measure => simp [RowKit.intOf]
end Go.Proofs.YthpmhjlndnelfaaDoor.Real
