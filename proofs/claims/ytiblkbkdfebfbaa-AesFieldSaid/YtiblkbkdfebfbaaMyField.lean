/- AesField: the walk. No conditions. -/
import Derived.Test.YtiblkbkdfebfbaaMyAwake
import Derived.Test.YtiblkbkdfebfbaaMyBoxRef
import Derived.Test.YtiblkbkdfebfbaaMyEqual
import Derived.Deep.RegionHeld3
namespace Go.Proofs.Ytiblkbkdfebfbaa.Aes
open Go.RowKit Go.Proofs.Ytiblkbkdfebfbaa.Own

theorem boxref_row (w : World) : Calls Try.prog 14 #[] w fun e w' => ∃ g cap, e = .returned (.slice (some ⟨g, 0, none⟩) 256 cap) ∧ g < w'.heap.size ∧ (∀ j, j < 256 → w'.cell? ⟨g, j, none⟩ = some (.int .u8 ((sT j).toNat : Int))) ∧ Below w.heap.size w w' := by
  refine (boxref_any w).mono ?_
  rintro e w' ⟨v, rfl, hown, hb⟩
  have hc := hown
  obtain ⟨_, ⟨rfl, h0⟩ | ⟨g, cap, cur, rfl, hbg, hg, rest⟩⟩ := hown
  · omega
  · refine ⟨g, cap, rfl, (Array.getElem?_eq_some_iff.1 hg).1, fun j hj => ?_, hb⟩
    have h1 := hc.cells (g := g) rfl j (.int .u8 ((sub (BitVec.ofNat 8 j)).toNat : Int)) (by simp [subs, hj])
    rw [sub_T, show (BitVec.ofNat 8 j).toNat = j by rw [BitVec.toNat_ofNat]; omega] at h1
    have e : (⟨g, 0, none⟩ : Addr).add j = ⟨g, j, none⟩ := by
      simp [Addr.add]
      intro h0
      rw [h0]
    rw [← e]
    exact h1

set_option maxRecDepth 30000 in
set_option maxHeartbeats 4000000 in
theorem field_row (a b c : B8) (w : World) : Calls Try.prog 5 #[.int .u8 (a.toNat : Int), .int .u8 (b.toNat : Int), .int .u8 (c.toNat : Int)] w fun e w' => e = .returned (.bool true) ∧ Below w.heap.size w w' := by
  have HAW := Aside0.mk awake_holds
  have hbox := box_any
  rw [box_eq] at hbox
  have HBOX := Aside0.mk hbox
  have HR := Aside0.mk boxref_row
  have t1 := fun w => times_any a b w
  have t1r := fun w => timesref_any a b w
  have t2 := fun w => times_any b a w
  rw [tm_comm b a] at t2
  have t3 := fun w => times_any a (b ^^^ c) w
  rw [tm_b] at t3
  have t4 := fun w => times_any a c w
  have t5 := fun w => times_any (tm a b) c w
  have t6 := fun w => times_any b c w
  have t7 := fun w => times_any a (tm b c) w
  rw [← tm_assoc] at t7
  have x1 := xor_b8 b c
  have x2 := xor_b8 (tm a b) (tm a c)
  clear hbox
  generalize tm (tm a b) c = r at *
  generalize tm a b ^^^ tm a c = y at *
  generalize tm a b = p at *
  generalize tm a c = q at *
  generalize tm b c = s at *
  generalize b ^^^ c = x at *
  have T1 := Aside0.mk t1
  have T1R := Aside0.mk t1r
  have T2 := Aside0.mk t2
  have T3 := Aside0.mk t3
  have T4 := Aside0.mk t4
  have T5 := Aside0.mk t5
  have T6 := Aside0.mk t6
  have T7 := Aside0.mk t7
  clear t1 t1r t2 t3 t4 t5 t6 t7
  have hz : ∀ w, (zeroValue 26).run Try.prog w = .ok (.agg (ba 256 fun _ => 0#8)) w := fun w => by rw [zero26, ba_zero]
  have HU := Aside0.mk Try.underlying26
  have HI : Aside0 ((Try.prog.info? 26).map (·.size) = some (ba 256 sT).size) := ⟨by rw [ba_size]; kernel_rfl⟩
  go_enter Try.func5, Try.ntmps5
  go_wp2_with (first
    | ((go_at_call 6; with_reducible refine (HAW.out _).mono ?_); rintro e w1 ⟨rfl, hb⟩; have HB := Aside0.mk hb; clear hb)
    | ((go_at_call 10; with_reducible refine (HBOX.out _).mono ?_); rintro e w2 ⟨rfl, hb⟩; have HB2 := Aside0.mk (HB.out.trans (hb.mono HB.out.size)); clear hb)
    | (refine wpList_store_row rfl 26 _ _ rfl w2.heap.size (ba 256 sT) rfl rfl 26 (ba 256 fun _ => 0#8) (new_of w2 _ 26) HI.out (by rw [ba_size, ba_size]) (ba_one _ _) ?_))
  have B0 := Aside0.mk (row_of (new_of w2 (ba 256 fun _ => 0#8) 26) (ba 256 sT))
  have BB := Aside0.mk (below_setRow (HB2.out.alloc HB2.out.size (.cells (ba 256 fun _ => 0#8) 26)) HB2.out.size (ba 256 sT))
  clear HAW HBOX HB HB2
  generalize (w2.alloc (.cells (ba 256 fun _ => 0#8) 26)).setRow w2.heap.size (ba 256 sT) = W at *
  generalize w2.heap.size = G at *
  have BD : Aside0 (Bx W.drew G (ba 256 sT) 26) := ⟨B0.out⟩
  have BBD : Aside0 (Below w.heap.size w W.drew) := ⟨BB.out.drew⟩
  clear B0 BB
  go_region_held3 (fun w' => Bx w' G (ba 256 sT) 26) (first | exact BD.out | exact CD.out | exact ED.out) (first
    | ((go_at_call 11; with_reducible refine (T1.out _).mono ?_); rintro e w3 ⟨rfl, rfl⟩)
    | ((go_at_call 12; with_reducible refine (T1R.out _).mono ?_); rintro e w3 ⟨rfl, rfl⟩)
    | ((go_at_call 11; with_reducible refine (T2.out _).mono ?_); rintro e w3 ⟨rfl, rfl⟩)
    | ((go_at_call 11; with_reducible refine (T3.out _).mono ?_); rintro e w3 ⟨rfl, rfl⟩)
    | ((go_at_call 11; with_reducible refine (T4.out _).mono ?_); rintro e w3 ⟨rfl, rfl⟩)
    | ((go_at_call 11; with_reducible refine (T5.out _).mono ?_); rintro e w3 ⟨rfl, rfl⟩)
    | ((go_at_call 11; with_reducible refine (T6.out _).mono ?_); rintro e w3 ⟨rfl, rfl⟩)
    | ((go_at_call 11; with_reducible refine (T7.out _).mono ?_); rintro e w3 ⟨rfl, rfl⟩)
    | ((go_at_call 14; with_reducible refine (HR.out _).mono ?_); rintro e w3 ⟨g2, cap, rfl, hg2, hc2, hb3⟩; have CD := Aside0.mk (below_of BD.out hb3); have CB := Aside0.mk (BBD.out.trans (hb3.mono BBD.out.size)); have HG2 := Aside0.mk hg2; have HC2 := Aside0.mk hc2; clear hb3 hg2 hc2)
    | ((go_at_call 13; with_reducible refine (equal_same sT G g2 256 cap w3 (lt_of CD.out) HG2.out (fun j hj => (cell_of CD.out j).trans (ba_get 256 sT j hj)) HC2.out).mono ?_); rintro e w4 ⟨rfl, hb4⟩; have ED := Aside0.mk (below_of CD.out hb4); have EB := Aside0.mk (CB.out.trans (hb4.mono CB.out.size)); clear hb4))
  go_wp2
  go_ret
  exact ⟨rfl, EB.out⟩
end Go.Proofs.Ytiblkbkdfebfbaa.Aes
