/- whole, at a key that is set: its contract. No conditions. -/
import Derived.Test.YtiblkbkdfebfbaaMyTurn
namespace Go.Proofs.Ytiblkbkdfebfbaa.Aes
open Go.RowKit Go.Proofs.Ytiblkbkdfebfbaa.Own

theorem kc_one (b : Bool) (wf sf : Nat → B8) : (kc b wf sf).all (·.oneCell') = true := by
  unfold kc
  rw [Array.all_append, Array.all_append, ba_one, ba_one]
  simp [Value.oneCell']
theorem kc_0 (b : Bool) (wf sf : Nat → B8) : (kc b wf sf)[0]? = some (.bool b) := by
  unfold kc
  rw [Array.getElem?_append_left (by simp [ba_size]), Array.getElem?_append_left (by simp)]
  rfl
theorem zero28 (w : World) : (zeroValue 28).run Try.prog w = .ok (.agg (#[.bool false] ++ Array.replicate 176 (.int .u8 0) ++ Array.replicate 256 (.int .u8 0))) w := by kernel_rfl
theorem kc_zero : #[Value.bool false] ++ Array.replicate 176 (.int .u8 0) ++ Array.replicate 256 (.int .u8 0) = kc false (fun _ => 0#8) (fun _ => 0#8) := by
  rw [ba_zero, ba_zero]
  rfl
theorem zero28k (w : World) : (zeroValue 28).run Try.prog w = .ok (.agg (kc false (fun _ => 0#8) (fun _ => 0#8))) w := by
  rw [zero28, kc_zero]
theorem info28 (b : Bool) (wf sf : Nat → B8) : (Try.prog.info? 28).map (·.size) = some (kc b wf sf).size := by rw [kc_size]; kernel_rfl

set_option maxRecDepth 30000 in
set_option maxHeartbeats 1000000 in
theorem whole_of (K Z : Array Value) (hz : ∀ w, (zeroValue 28).run Try.prog w = .ok (.agg Z) w) (hK : (Try.prog.info? 28).map (·.size) = some K.size) (hZ : Z.size = K.size) (h1 : K.all (·.oneCell') = true) (h0 : K[0]? = some (.bool true)) (w : World) : Calls Try.prog 15 #[.agg K] w fun e w' => e = .returned (.agg K) ∧ Below w.heap.size w w' := by
  have HK := Aside0.mk hK
  have HZ := Aside0.mk hZ
  have H1 := Aside0.mk h1
  clear hK hZ h1
  obtain ⟨G, hG⟩ : ∃ G, G = w.heap.size := ⟨_, rfl⟩
  have c0 : ((w.alloc (.cells K 28)).alloc (.cells Z 28)).cell? ⟨w.heap.size, 0, none⟩ = some (.bool true) := (cell_of (old_of (new_of w K 28) _) 0).trans h0
  have B0 := Aside0.mk (old_of (new_of w K 28) (.cells Z 28))
  have B1 := Aside0.mk (new_of (w.alloc (.cells K 28)) Z 28)
  rw [show (w.alloc (.cells K 28)).heap.size = w.heap.size + 1 by simp] at B1
  have HB : Aside0 (Below w.heap.size w ((w.alloc (.cells K 28)).alloc (.cells Z 28))) := ⟨((Below.refl _ _).alloc (Nat.le_refl _) _).alloc (by simp) _⟩
  have HU := Aside0.mk Try.underlying28
  clear h0 hG
  go_enter Try.func15, Try.ntmps15
  go_wp2_with (first
    | (refine wpList_load_row rfl 28 _ rfl w.heap.size rfl 28 K (0, 0) _ B0.out HU.out rfl HK.out ?_)
    | (refine wpList_store_row rfl 28 _ _ rfl (w.heap.size + 1) K rfl rfl 28 Z B1.out HK.out HZ.out H1.out ?_))
  refine bodyPost_ret (results_cell_row rfl _ _ (w.heap.size + 1) 28 K (0, 0) _ rfl (row_of B1.out _) HU.out rfl HK.out) rfl ⟨rfl, ?_⟩
  exact below_setRow HB.out (by omega) _
theorem whole_any (wf sf : Nat → B8) (w : World) : Calls Try.prog 15 #[.agg (kc true wf sf)] w fun e w' => e = .returned (.agg (kc true wf sf)) ∧ Below w.heap.size w w' :=
  whole_of _ _ zero28k (info28 _ _ _) (by rw [kc_size, kc_size]) (kc_one _ _ _) (kc_0 _ _ _) w
end Go.Proofs.Ytiblkbkdfebfbaa.Aes
