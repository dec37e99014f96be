/- Encrypt: its contract. No conditions. -/
import Derived.Test.YtiblkbkdfebfbaaMyNew
import Derived.StillTailTactics
namespace Go.Proofs.Ytiblkbkdfebfbaa.Aes
open Go.RowKit Go.Proofs.Ytiblkbkdfebfbaa.Own

def rowOf (wf : Nat → B8) (k : Nat) : Nat → B8 := fun i => wf (16 * k + i)
def xo (f h : Nat → B8) : Nat → B8 := fun i => f i ^^^ h i
/-- A block, round by round. -/
def er (wf sf f : Nat → B8) : Nat → Nat → B8
  | 0 => xo f (rowOf wf 0)
  | r + 1 => xo (if r + 1 < 10 then mx (tu sf (er wf sf f r)) else tu sf (er wf sf f r)) (rowOf wf (r + 1))

theorem range_of (b : Bool) (wf sf : Nat → B8) (k : Nat) (h : k < 11) (g : Nat) (w : World) (hg : Bx w g (kc b wf sf) 28) : w.rangeAt g (1 + k * 16) (ba 16 (rowOf wf k)).toList := by
  intro j v hv
  have hv' : (ba 16 (rowOf wf k))[j]? = some v := by rw [← hv]; exact Array.getElem?_toList.symm
  have hj : j < 16 := by
    rcases Nat.lt_or_ge j 16 with h | h
    · exact h
    · rw [Array.getElem?_eq_none (by rw [ba_size]; exact h)] at hv'
      cases hv'
  rw [cell_of hg, Nat.add_assoc, kc_w _ _ _ _ (by omega), ← hv', ba_get 16 _ j hj, Nat.mul_comm]
  rfl

def EncRel (K : Array Value) (wf sf f : Nat → B8) (w0 : World) (g : Nat) (r : Value) (wr : World) : Prop :=
  ∃ k : Nat, k ≤ 10 ∧ r = .int .i64 ((k + 1 : Nat) : Int) ∧ Bx wr g K 28 ∧ Bx wr (g + 1) (ba 16 (er wf sf f k)) 23 ∧ Bx wr (g + 1 + 1) (ba 16 fun _ => 0#8) 23 ∧ Below w0.heap.size w0 wr ∧ w0.heap.size ≤ g

theorem wpList_load_midA {P : Program} {ops : Array Oper} {rest : List Oper} {op : Oper} {a : Act} {w : World} {Q : Exit → Act → World → Prop} (hgd : op.guard = none) (ty : TypeId) (x : Operand) (ho : op.op = .load ty x)
    (b o : Nat) (hx : a.eval x = .pointer (some ⟨b, o, none⟩)) (cs : Array Value) (d : TypeDesc) (hc : w.rangeAt b o cs.toList)
    (hu : P.underlying ty = some d) (hd : d.isRow = true) (hi : (P.info? ty).map (·.size) = some cs.size)
    (h : wpList P ops Q rest (a.put op.dst (.agg cs)) w) : wpList P ops Q (op :: rest) a w :=
  wpList_load_mid hgd ty x ho b o hx cs.toList d hc hu hd (by rw [hi, Array.length_toList]) (by rw [Array.toArray_toList]; exact h)
theorem add_x (f h : Nat → B8) (w : World) : Calls Try.prog 16 #[.agg (ba 16 f), .agg (ba 16 h)] w fun e w' => e = .returned (.agg (ba 16 (xo f h))) ∧ Below w.heap.size w w' := add_any f h w
theorem info23 (f : Nat → B8) : (Try.prog.info? 23).map (·.size) = some (ba 16 f).size := by rw [ba_size]; kernel_rfl

theorem rangeA_of {w : World} {g : Nat} {t : TypeId} {cs : Array Value} (h : Bx w g cs t) : w.rangeAt g 0 cs.toList := by
  intro j v hv
  rw [cell_of h, Nat.zero_add, ← hv]
  exact Array.getElem?_toList.symm
theorem wpStill_load {P : Program} {ops : Array Oper} {rest : List Oper} {op : Oper} {a : Act} {w : World} {Q : Act → Prop} (hgd : op.guard = none) (ty : TypeId) (x : Operand) (ho : op.op = .load ty x)
    (b o : Nat) (hx : a.eval x = .pointer (some ⟨b, o, none⟩)) (cs : Array Value) (d : TypeDesc) (hc : w.rangeAt b o cs.toList)
    (hu : P.underlying ty = some d) (hd : d.isRow = true) (hi : (P.info? ty).map (·.size) = some cs.size)
    (h : wpStill P ops w Q rest (a.put op.dst (.agg cs))) : wpStill P ops w Q (op :: rest) a := by
  have hl := run_loadAt_mid w b o ty cs.toList d hc hu hd (by rw [hi, Array.length_toList])
  rw [Array.toArray_toList] at hl
  refine wpStill_step (fun K hK => ?_)
  rw [if_pos (by simp [Region.wanted, hgd])]
  unfold Oper.still execOp
  simp only [ho, hx, Sem.run_bind, hl, Result.andThen_ok]
  exact ⟨rfl, hK _ h⟩

set_option maxRecDepth 30000 in
set_option maxHeartbeats 2000000 in
theorem enc_any (wf sf f : Nat → B8) (w : World) : Calls Try.prog 8 #[.agg (kc true wf sf), .agg (ba 16 f)] w fun e w' => e = .returned (.agg (ba 16 (er wf sf f 10))) ∧ Below w.heap.size w w' := by
  have hwh := fun w => whole_any wf sf w
  have hs := info28 true wf sf
  have h1 := kc_one true wf sf
  have hr := fun k hk => range_of true wf sf k hk
  have htu := fun h p w hp => turned_any true wf sf h p w hp
  obtain ⟨K, hK⟩ : ∃ K, kc true wf sf = K := ⟨_, rfl⟩
  simp only [hK] at hwh hr htu
  rw [hK] at hs h1 ⊢
  have HK := Aside0.mk hK
  have HWH := Aside0.mk hwh
  have HS := Aside0.mk hs
  have H1 := Aside0.mk h1
  have HR := Aside0.mk hr
  have HTU := Aside0.mk htu
  have hz : ∀ w, (zeroValue 23).run Try.prog w = .ok (.agg (ba 16 fun _ => 0#8)) w := fun w => by rw [zero23, ba_zero]
  have HU := Aside0.mk Try.underlying28
  have HU3 := Aside0.mk Try.underlying23
  have HI := Aside0.mk info23
  have HA := Aside0.mk (add_x f (rowOf wf 0))
  have sz1 : (w.alloc (.cells K 28)).heap.size = w.heap.size + 1 := by simp
  have sz2 : ((w.alloc (.cells K 28)).alloc (.cells (ba 16 f) 23)).heap.size = w.heap.size + 1 + 1 := by simp
  have B0 := Aside0.mk (old_of (old_of (new_of w K 28) (.cells (ba 16 f) 23)) (.cells (ba 16 fun _ => 0#8) 23))
  have b1 := old_of (new_of (w.alloc (.cells K 28)) (ba 16 f) 23) (.cells (ba 16 fun _ => 0#8) 23)
  rw [sz1] at b1
  have B1 := Aside0.mk b1
  have b2 := new_of ((w.alloc (.cells K 28)).alloc (.cells (ba 16 f) 23)) (ba 16 fun _ => 0#8) 23
  rw [sz2] at b2
  have B2 := Aside0.mk b2
  have HB : Aside0 (Below w.heap.size w (((w.alloc (.cells K 28)).alloc (.cells (ba 16 f) 23)).alloc (.cells (ba 16 fun _ => 0#8) 23))) := ⟨(((Below.refl _ _).alloc (Nat.le_refl _) _).alloc (by simp) _).alloc (by simp; omega) _⟩
  have n1 : Aside0 (w.heap.size + 1 ≠ w.heap.size) := ⟨by omega⟩
  have n2 : Aside0 (w.heap.size + 1 + 1 ≠ w.heap.size) := ⟨by omega⟩
  clear hK hwh hs h1 hr htu b1 b2 sz1 sz2
  go_enter Try.func8, Try.ntmps8
  go_wp2_with (first
    | (refine wpList_load_row rfl 28 _ rfl w.heap.size rfl 28 K (0, 0) _ B0.out HU.out rfl HS.out ?_)
    | ((go_at_call 15; with_reducible refine (HWH.out _).mono ?_); rintro e w1 ⟨rfl, hb⟩; have C0 := Aside0.mk (below_of B0.out hb); have C1 := Aside0.mk (below_of B1.out hb); have C2 := Aside0.mk (below_of B2.out hb); have CB := Aside0.mk (HB.out.trans (hb.mono HB.out.size)); clear hb)
    | (refine wpList_store_row rfl 28 _ _ rfl w.heap.size K rfl rfl 28 K C0.out HS.out rfl H1.out ?_)
    | (refine wpList_load_row rfl 23 _ rfl (w.heap.size + 1) rfl 23 (ba 16 f) (0, 0) _ (row_far C1.out n1.out K) HU3.out rfl (HI.out _) ?_)
    | (refine wpList_load_midA rfl 23 _ rfl w.heap.size 1 rfl (ba 16 (rowOf wf 0)) _ (HR.out 0 (by omega) _ _ (row_of C0.out K)) HU3.out rfl (HI.out _) ?_)
    | ((go_at_call 16; with_reducible refine (HA.out _).mono ?_); rintro e w2 ⟨rfl, hb⟩; have D0 := Aside0.mk (below_of (row_of C0.out K) hb); have D1 := Aside0.mk (below_of (row_far C1.out n1.out K) hb); have D2 := Aside0.mk (below_of (row_far C2.out n2.out K) hb); have DB := Aside0.mk ((below_setRow CB.out (Nat.le_refl _) K).trans (hb.mono (below_setRow CB.out (Nat.le_refl _) K).size)); clear hb)
    | (refine wpList_store_row rfl 23 _ _ rfl (w.heap.size + 1) (ba 16 (xo f (rowOf wf 0))) rfl rfl 23 (ba 16 f) D1.out (HI.out _) (by rw [ba_size, ba_size]) (ba_one _ _) ?_))
  have S0 : EncRel K wf sf f w w.heap.size (.int .i64 1) (w2.setRow (w.heap.size + 1) (ba 16 (xo f (rowOf wf 0)))) := ⟨0, by omega, rfl, row_far D0.out n1.out.symm _, row_of D1.out _, row_far D2.out (by omega) _, below_setRow DB.out (Nat.le_succ _) _, Nat.le_refl _⟩
  clear D0 D1 D2 DB C0 C1 C2 CB
  generalize w2.setRow (w.heap.size + 1) (ba 16 (xo f (rowOf wf 0))) = W3 at *
  obtain ⟨G, hG⟩ : ∃ G, w.heap.size = G := ⟨_, rfl⟩
  rw [hG] at S0 ⊢
  clear B0 B1 B2 HB n1 n2 HA HWH HS H1
  have n1 : Aside0 (G + 1 ≠ G) := ⟨by omega⟩
  have n2 : Aside0 (G + 1 + 1 ≠ G + 1) := ⟨by omega⟩
  have n3 : Aside0 (G ≠ G + 1) := ⟨by omega⟩
  go_loopw [5] (fun r wr => EncRel K wf sf f w G r wr) (fun r _ => 11 - (RowKit.intOf r).toNat)
  case atStart => exact S0
  case round =>
    obtain ⟨k, hk, rfl, b0, b1, b2, hb, hg⟩ := hrel
    clear S0
    have C0 := Aside0.mk b0
    have C1 := Aside0.mk b1
    have C2 := Aside0.mk b2
    have CB := Aside0.mk hb
    have CG := Aside0.mk hg
    clear b0 b1 b2 hb hg
    by_cases h10 : k < 10
    · have T1 := Aside0.mk (HTU.out (er wf sf f k) G wr C0.out)
      have hkI : ((k + 1 : Nat) : Int) ≤ 10 := by omega
      by_cases h9 : k + 1 < 10
      · have hkJ : ((k + 1 : Nat) : Int) < 10 := by omega
        have T2 := Aside0.mk (fun w => mixed_any (tu sf (er wf sf f k)) w)
        go_wp2_with (first
          | (refine wpList_load_row rfl 23 _ rfl (G + 1) rfl 23 (ba 16 (er wf sf f k)) (0, 0) _ C1.out HU3.out rfl (HI.out _) ?_)
          | ((go_at_call 17; with_reducible refine (T1.out).mono ?_); rintro e w3 ⟨rfl, hb⟩; have D0 := Aside0.mk (below_of C0.out hb); have D1 := Aside0.mk (below_of C1.out hb); have D2 := Aside0.mk (below_of C2.out hb); have DB := Aside0.mk (CB.out.trans (hb.mono CB.out.size)); clear hb)
          | (refine wpList_store_row rfl 23 _ _ rfl (G + 1) (ba 16 (tu sf (er wf sf f k))) rfl rfl 23 (ba 16 (er wf sf f k)) D1.out (HI.out _) (by rw [ba_size, ba_size]) (ba_one _ _) ?_)
          | (refine wpList_load_row rfl 23 _ rfl (G + 1) rfl 23 (ba 16 (tu sf (er wf sf f k))) (0, 0) _ (row_of D1.out _) HU3.out rfl (HI.out _) ?_)
          | ((go_at_call 18; with_reducible refine (T2.out _).mono ?_); rintro e w4 ⟨rfl, hb⟩; have F0 := Aside0.mk (below_of (row_far D0.out n3.out (ba 16 (tu sf (er wf sf f k)))) hb); have F1 := Aside0.mk (below_of (row_of D1.out (ba 16 (tu sf (er wf sf f k)))) hb); have F2 := Aside0.mk (below_of (row_far D2.out n2.out (ba 16 (tu sf (er wf sf f k)))) hb); have FB := Aside0.mk ((below_setRow DB.out (Nat.le_succ_of_le CG.out) (ba 16 (tu sf (er wf sf f k)))).trans (hb.mono (below_setRow DB.out (Nat.le_succ_of_le CG.out) (ba 16 (tu sf (er wf sf f k)))).size)); clear hb)
          | (refine wpList_store_row rfl 23 _ _ rfl (G + 1) (ba 16 (mx (tu sf (er wf sf f k)))) rfl rfl 23 (ba 16 (tu sf (er wf sf f k))) F1.out (HI.out _) (by rw [ba_size, ba_size]) (ba_one _ _) ?_))
        have E0 := Aside0.mk (row_far F0.out n3.out (ba 16 (mx (tu sf (er wf sf f k)))))
        have E1 := Aside0.mk (row_of F1.out (ba 16 (mx (tu sf (er wf sf f k)))))
        have E2 := Aside0.mk (row_far F2.out n2.out (ba 16 (mx (tu sf (er wf sf f k)))))
        have EB := Aside0.mk (below_setRow FB.out (Nat.le_succ_of_le CG.out) (ba 16 (mx (tu sf (er wf sf f k)))))
        clear C0 C1 C2 CB D0 D1 D2 DB F0 F1 F2 FB T1 T2
        generalize w4.setRow (G + 1) (ba 16 (mx (tu sf (er wf sf f k)))) = W6 at *
        have hH : er wf sf f (k + 1) = xo (mx (tu sf (er wf sf f k))) (rowOf wf (k + 1)) := by
          show xo (if k + 1 < 10 then _ else _) _ = _
          rw [if_pos h9]
        generalize mx (tu sf (er wf sf f k)) = H at *
        have q0 : 0 ≤ (k : Int) + 1 := by omega
        have q1 : (k : Int) + 1 < 11 := by omega
        have hm : Try.prog.follows .mixedOrders = true := by kernel_rfl
        have TA := Aside0.mk (fun w => add_x H (rowOf wf (k + 1)) w)
        refine wp_region_still_tail 5 hm (by kernel_rfl) ?_
        simp only [List.take_succ_cons, List.take_zero, List.drop_succ_cons, List.drop_zero]
        refine wpStill_load rfl 23 _ rfl (G + 1) 0 rfl (ba 16 H) _ (rangeA_of E1.out) HU3.out rfl (HI.out _) ?_
        still_step
        still_step
        still_step
        refine wpStill_load rfl 23 _ rfl G (1 + (k + 1) * 16) rfl (ba 16 (rowOf wf (k + 1))) _ (HR.out (k + 1) (Nat.succ_lt_succ h10) _ _ E0.out) HU3.out rfl (HI.out _) ?_
        refine wpStill_nil ?_
        have ED : Aside0 (Below w.heap.size w W6.drew) := ⟨EB.out.drew⟩
        have E0 : Aside0 (Bx W6.drew G K 28) := ⟨E0.out⟩
        have E1 : Aside0 (Bx W6.drew (G + 1) (ba 16 H) 23) := ⟨E1.out⟩
        have E2 : Aside0 (Bx W6.drew (G + 1 + 1) (ba 16 fun _ => 0#8) 23) := ⟨E2.out⟩
        go_wp2_with (first
          | ((go_at_call 16; with_reducible refine (TA.out _).mono ?_); rintro e w7 ⟨rfl, hb⟩; have F0 := Aside0.mk (below_of E0.out hb); have F1 := Aside0.mk (below_of E1.out hb); have F2 := Aside0.mk (below_of E2.out hb); have FB := Aside0.mk (ED.out.trans (hb.mono ED.out.size)); clear hb)
          | (refine wpList_store_row rfl 23 _ _ rfl (G + 1) (ba 16 (xo H (rowOf wf (k + 1)))) rfl rfl 23 (ba 16 H) F1.out (HI.out _) (by rw [ba_size, ba_size]) (ba_one _ _) ?_))
        go_roundw
        case rel => exact ⟨k + 1, by omega, by go_num, row_far F0.out n3.out _, hH ▸ row_of F1.out _, row_far F2.out n2.out _, below_setRow FB.out (Nat.le_succ_of_le CG.out) _, CG.out⟩
        case measure =>
          simp [RowKit.intOf]
          try omega
      · have hkJ : ¬ ((k + 1 : Nat) : Int) < 10 := by omega
        have hkd : decide ((k : Int) + 1 < 10) = false := decide_eq_false (by omega)
        go_wp2_with (first
          | (refine wpList_load_row rfl 23 _ rfl (G + 1) rfl 23 (ba 16 (er wf sf f k)) (0, 0) _ C1.out HU3.out rfl (HI.out _) ?_)
          | ((go_at_call 17; with_reducible refine (T1.out).mono ?_); rintro e w3 ⟨rfl, hb⟩; have D0 := Aside0.mk (below_of C0.out hb); have D1 := Aside0.mk (below_of C1.out hb); have D2 := Aside0.mk (below_of C2.out hb); have DB := Aside0.mk (CB.out.trans (hb.mono CB.out.size)); clear hb)
          | (refine wpList_store_row rfl 23 _ _ rfl (G + 1) (ba 16 (tu sf (er wf sf f k))) rfl rfl 23 (ba 16 (er wf sf f k)) D1.out (HI.out _) (by rw [ba_size, ba_size]) (ba_one _ _) ?_))
        have E0 := Aside0.mk (row_far D0.out n3.out (ba 16 (tu sf (er wf sf f k))))
        have E1 := Aside0.mk (row_of D1.out (ba 16 (tu sf (er wf sf f k))))
        have E2 := Aside0.mk (row_far D2.out n2.out (ba 16 (tu sf (er wf sf f k))))
        have EB := Aside0.mk (below_setRow DB.out (Nat.le_succ_of_le CG.out) (ba 16 (tu sf (er wf sf f k))))
        clear C0 C1 C2 CB D0 D1 D2 DB T1
        generalize w3.setRow (G + 1) (ba 16 (tu sf (er wf sf f k))) = W6 at *
        have hH : er wf sf f (k + 1) = xo (tu sf (er wf sf f k)) (rowOf wf (k + 1)) := by
          show xo (if k + 1 < 10 then _ else _) _ = _
          rw [if_neg h9]
        generalize tu sf (er wf sf f k) = H at *
        have q0 : 0 ≤ (k : Int) + 1 := by omega
        have q1 : (k : Int) + 1 < 11 := by omega
        have hm : Try.prog.follows .mixedOrders = true := by kernel_rfl
        have TA := Aside0.mk (fun w => add_x H (rowOf wf (k + 1)) w)
        refine wp_region_still_tail 5 hm (by kernel_rfl) ?_
        simp only [List.take_succ_cons, List.take_zero, List.drop_succ_cons, List.drop_zero]
        refine wpStill_load rfl 23 _ rfl (G + 1) 0 rfl (ba 16 H) _ (rangeA_of E1.out) HU3.out rfl (HI.out _) ?_
        still_step
        still_step
        still_step
        refine wpStill_load rfl 23 _ rfl G (1 + (k + 1) * 16) rfl (ba 16 (rowOf wf (k + 1))) _ (HR.out (k + 1) (Nat.succ_lt_succ h10) _ _ E0.out) HU3.out rfl (HI.out _) ?_
        refine wpStill_nil ?_
        have ED : Aside0 (Below w.heap.size w W6.drew) := ⟨EB.out.drew⟩
        have E0 : Aside0 (Bx W6.drew G K 28) := ⟨E0.out⟩
        have E1 : Aside0 (Bx W6.drew (G + 1) (ba 16 H) 23) := ⟨E1.out⟩
        have E2 : Aside0 (Bx W6.drew (G + 1 + 1) (ba 16 fun _ => 0#8) 23) := ⟨E2.out⟩
        go_wp2_with (first
          | ((go_at_call 16; with_reducible refine (TA.out _).mono ?_); rintro e w7 ⟨rfl, hb⟩; have F0 := Aside0.mk (below_of E0.out hb); have F1 := Aside0.mk (below_of E1.out hb); have F2 := Aside0.mk (below_of E2.out hb); have FB := Aside0.mk (ED.out.trans (hb.mono ED.out.size)); clear hb)
          | (refine wpList_store_row rfl 23 _ _ rfl (G + 1) (ba 16 (xo H (rowOf wf (k + 1)))) rfl rfl 23 (ba 16 H) F1.out (HI.out _) (by rw [ba_size, ba_size]) (ba_one _ _) ?_))
        go_roundw
        case rel => exact ⟨k + 1, by omega, by go_num, row_far F0.out n3.out _, hH ▸ row_of F1.out _, row_far F2.out n2.out _, below_setRow FB.out (Nat.le_succ_of_le CG.out) _, CG.out⟩
        case measure =>
          simp [RowKit.intOf]
          try omega
    · obtain rfl : k = 10 := by omega
      go_wp2_with (first
        | (refine wpList_load_row rfl 23 _ rfl (G + 1) rfl 23 (ba 16 (er wf sf f 10)) (0, 0) _ C1.out HU3.out rfl (HI.out _) ?_)
        | (refine wpList_store_row rfl 23 _ _ rfl (G + 1 + 1) (ba 16 (er wf sf f 10)) rfl rfl 23 (ba 16 fun _ => 0#8) C2.out (HI.out _) (by rw [ba_size, ba_size]) (ba_one _ _) ?_))
      refine bodyPost_ret (results_cell_row rfl _ _ (G + 1 + 1) 23 (ba 16 (er wf sf f 10)) (0, 0) _ rfl (row_of C2.out _) HU3.out rfl (HI.out _)) rfl ⟨rfl, ?_⟩
      exact below_setRow CB.out (Nat.le_succ_of_le (Nat.le_succ_of_le CG.out)) _
end Go.Proofs.Ytiblkbkdfebfbaa.Aes
