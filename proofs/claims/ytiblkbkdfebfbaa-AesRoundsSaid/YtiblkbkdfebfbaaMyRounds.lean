/- Rounds: its contract. No conditions. -/
import Derived.Test.YtiblkbkdfebfbaaMyEnc
namespace Go.Proofs.Ytiblkbkdfebfbaa.Aes
open Go.RowKit Go.Proofs.Ytiblkbkdfebfbaa.Own

theorem zero25 (w : World) : (zeroValue 25).run Try.prog w = .ok (.agg (Array.replicate 176 (.int .u8 0))) w := by kernel_rfl

theorem kc_words (b : Bool) (wf sf : Nat → B8) : (kc b wf sf).extract 1 177 = ba 176 wf := by
  have hz := kc_size b wf sf
  apply Array.ext_getElem?
  intro j
  by_cases h : j < 176
  · rw [Array.getElem?_extract, if_pos (by omega), kc_w _ _ _ _ h, ba_get 176 _ j h]
  · rw [Array.getElem?_eq_none (by simp; omega), Array.getElem?_eq_none (by rw [ba_size]; omega)]
theorem agg25 (w : World) : (isAgg 25).run Try.prog w = .ok true w := by kernel_rfl
theorem size25 (w : World) : (sizeOf 25).run Try.prog w = .ok 176 w := by kernel_rfl
theorem field_words (K : Array Value) (w : World) : (Instr.field 28 (.agg K) 1).run Try.prog w = .ok (.agg (K.extract 1 177)) w := by
  unfold Instr.field
  rw [Sem.run_bind, run_underlying Try.underlying28]
  have h1 := agg25 w
  have h2 := size25 w
  simp [part, asAgg, Sem.run_bind, *]

set_option maxRecDepth 30000 in
set_option maxHeartbeats 2000000 in
theorem rounds_any (wf sf : Nat → B8) (w : World) : Calls Try.prog 9 #[.agg (kc true wf sf)] w fun e w' => e = .returned (.agg (ba 176 wf)) ∧ Below w.heap.size w w' := by
  have hwh := fun w => whole_any wf sf w
  have hs := info28 true wf sf
  have h1 := kc_one true wf sf
  obtain ⟨K, hK⟩ : ∃ K, kc true wf sf = K := ⟨_, rfl⟩
  simp only [hK] at hwh
  rw [hK] at hs h1 ⊢
  have HK := Aside0.mk hK
  have HWH := Aside0.mk hwh
  have HS := Aside0.mk hs
  have H1 := Aside0.mk h1
  have hz : ∀ w, (zeroValue 25).run Try.prog w = .ok (.agg (ba 176 fun _ => 0#8)) w := fun w => by rw [zero25, ba_zero]
  have HU := Aside0.mk Try.underlying28
  have sz1 : (w.alloc (.cells K 28)).heap.size = w.heap.size + 1 := by simp
  have B0 := Aside0.mk (old_of (new_of w K 28) (.cells (ba 176 fun _ => 0#8) 25))
  have b1 := new_of (w.alloc (.cells K 28)) (ba 176 fun _ => 0#8) 25
  rw [sz1] at b1
  have B1 := Aside0.mk b1
  have HB : Aside0 (Below w.heap.size w ((w.alloc (.cells K 28)).alloc (.cells (ba 176 fun _ => 0#8) 25))) := ⟨((Below.refl _ _).alloc (Nat.le_refl _) _).alloc (by simp) _⟩
  have hKW := kc_words true wf sf
  rw [hK] at hKW
  have hfw : ∀ w, (Instr.field 28 (.agg K) 1).run Try.prog w = .ok (.agg (ba 176 wf)) w := fun w => by rw [field_words, hKW]
  have HU5 := Aside0.mk Try.underlying25
  have HI : Aside0 ((Try.prog.info? 25).map (·.size) = some (ba 176 wf).size) := ⟨by rw [ba_size]; kernel_rfl⟩
  clear hK hwh hs h1 b1 sz1 hKW
  go_enter Try.func9, Try.ntmps9
  go_wp2_with (first
    | (refine wpList_load_row rfl 28 _ rfl w.heap.size rfl 28 K (0, 0) _ B0.out HU.out rfl HS.out ?_)
    | ((go_at_call 15; with_reducible refine (HWH.out _).mono ?_); rintro e w1 ⟨rfl, hb⟩; have C0 := Aside0.mk (below_of B0.out hb); have C1 := Aside0.mk (below_of B1.out hb); have CB := Aside0.mk (HB.out.trans (hb.mono HB.out.size)); clear hb)
    | (refine wpList_store_row rfl 25 _ _ rfl (w.heap.size + 1) (ba 176 wf) rfl rfl 25 (ba 176 fun _ => 0#8) C1.out HI.out (by rw [ba_size, ba_size]) (ba_one _ _) ?_))
  refine bodyPost_ret (results_cell_row rfl _ _ (w.heap.size + 1) 25 (ba 176 wf) (0, 0) _ rfl (row_of C1.out _) HU5.out rfl HI.out) rfl ⟨rfl, ?_⟩
  exact below_setRow CB.out (Nat.le_succ _) _
end Go.Proofs.Ytiblkbkdfebfbaa.Aes
