/- AesApart: the walk. No conditions. -/
import Derived.Test.YtiblkbkdfebfbaaMyAwake
import Derived.Test.YtiblkbkdfebfbaaMyHeldKit
import Derived.Test.YtiblkbkdfebfbaaOwnInj
namespace Go.Proofs.Ytiblkbkdfebfbaa.Aes
open Go.RowKit Go.Proofs.Ytiblkbkdfebfbaa.Own

theorem apart_eq (wf a b : Nat → B8) : eq16 (er wf sT a 10) (er wf sT b 10) = eq16 a b := by
  by_cases h : eq16 a b = true
  · rw [h]
    rw [eq16_iff] at h
    exact (eq16_iff _ _).2 (fun i hi => by
      have : ∀ r, ∀ i, i < 16 → er wf sT a r i = er wf sT b r i := by
        intro r
        induction r with
        | zero => exact fun i hi => congrArg (· ^^^ rowOf wf 0 i) (h i hi)
        | succ r ih =>
          intro i hi
          have e : tu sT (er wf sT a r) = tu sT (er wf sT b r) := by
            funext i
            unfold tu
            rw [ih (ti i) (Nat.mod_lt _ (by omega))]
          show (if r + 1 < 10 then mx (tu sT (er wf sT a r)) else tu sT (er wf sT a r)) i ^^^ _ = (if r + 1 < 10 then mx (tu sT (er wf sT b r)) else tu sT (er wf sT b r)) i ^^^ _
          rw [e]
      exact this 10 i hi)
  · have h' : eq16 a b = false := by simpa using h
    rw [h']
    cases he : eq16 (er wf sT a 10) (er wf sT b 10) with
    | false => rfl
    | true => exact absurd ((eq16_iff a b).2 (er_inj wf a b 10 ((eq16_iff _ _).1 he))) h

theorem range_keep {w w' : World} {N : Nat} {cs : List Value} (h : w.rangeAt N 0 cs) (hN : N < w.heap.size) (hb : Below w.heap.size w w') : w'.rangeAt N 0 cs := fun j v hv => (hb.cell (p := ⟨N, 0 + j, none⟩) hN).trans (h j v hv)
theorem eq16_self (f : Nat → B8) : eq16 f f = true := (eq16_iff f f).2 (fun _ _ => rfl)
theorem row0_of (d : ByteArray) : ba 16 (wr0 sT (sb d)) = ba 16 (sb d) := ba_congr 16 _ _ (fun i hi => by
  unfold wr0
  rw [show i / 16 = 0 by omega, show i % 16 = i by omega]
  rfl)

def ApS (K X Y : Array Value) (g p q : Nat) (w : World) : Prop := Bx w g K 28 ∧ Bx w p X 23 ∧ Bx w q Y 23

set_option linter.unusedSimpArgs false in
set_option maxRecDepth 30000 in
set_option maxHeartbeats 4000000 in
theorem apart_row (d : ByteArray) (a b : Nat → B8) (w : World) : Calls Try.prog 3 #[.string d, .agg (ba 16 a), .agg (ba 16 b)] w fun e w' => e = .returned (.bool true) ∧ Below w.heap.size w w' := by
  have HAW := Aside0.mk awake_holds
  have sz1 : (w.alloc (.cells (ba 16 a) 23)).heap.size = w.heap.size + 1 := by simp
  have b0 := old_of (new_of w (ba 16 a) 23) (.cells (ba 16 b) 23)
  have b1 := new_of (w.alloc (.cells (ba 16 a) 23)) (ba 16 b) 23
  rw [sz1] at b1
  have A0 := Aside0.mk b0
  have A1 := Aside0.mk b1
  have AB : Aside0 (Below w.heap.size w ((w.alloc (.cells (ba 16 a) 23)).alloc (.cells (ba 16 b) 23))) := ⟨((Below.refl _ _).alloc (Nat.le_refl _) _).alloc (by simp) _⟩
  clear b0 b1 sz1
  have hz := zero28k
  by_cases hd : d.size = 16
  · have hnew := fun w => new_16 d hd w
    have henc := fun f w => enc_any (wr0 (outF 255) (sb d)) (outF 255) f w
    have hrnd := fun w => rounds_any (wr0 (outF 255) (sb d)) (outF 255) w
    have hs := info28 true (wr0 (outF 255) (sb d)) (outF 255)
    have h1 := kc_one true (wr0 (outF 255) (sb d)) (outF 255)
    have hsz : (kc false (fun _ => 0#8) (fun _ => 0#8)).size = (kc true (wr0 (outF 255) (sb d)) (outF 255)).size := by rw [kc_size, kc_size]
    rw [box_eq] at hnew henc hrnd hs h1 hsz
    obtain ⟨Z, hZ⟩ : ∃ Z, kc false (fun _ => 0#8) (fun _ => 0#8) = Z := ⟨_, rfl⟩
    rw [hZ] at hz hsz
    generalize kc true (wr0 sT (sb d)) sT = K at *
    have heq := apart_eq (wr0 sT (sb d)) a b
    have hrow := row0_of d
    generalize er (wr0 sT (sb d)) sT = E at *
    generalize wr0 sT (sb d) = WF at *
    have HNEW := Aside0.mk hnew
    have HENC := Aside0.mk henc
    have HRND := Aside0.mk hrnd
    have HEQ := Aside0.mk heq
    have HROW := Aside0.mk hrow
    have HS := Aside0.mk hs
    have H1 := Aside0.mk h1
    have HSZ := Aside0.mk hsz
    have HD := Aside0.mk hd
    have HU := Aside0.mk Try.underlying28
    have HU3 := Aside0.mk Try.underlying23
    have HI := Aside0.mk info23
    clear hnew henc hrnd heq hrow hs h1 hsz hZ hd
    go_enter Try.func3, Try.ntmps3
    go_wp2_with (first
      | ((go_at_call 6; with_reducible refine (HAW.out _).mono ?_); rintro e w1 ⟨rfl, hb⟩; have C0 := Aside0.mk (below_of A0.out hb); have C1 := Aside0.mk (below_of A1.out hb); have CB := Aside0.mk (AB.out.trans (hb.mono AB.out.size)); clear hb)
      | ((go_at_call 7; with_reducible refine (HNEW.out _).mono ?_); rintro e w2 ⟨rfl, hb⟩; have D0 := Aside0.mk (below_of C0.out hb); have D1 := Aside0.mk (below_of C1.out hb); have DB := Aside0.mk (CB.out.trans (hb.mono CB.out.size)); clear hb)
      | (refine wpList_store_row rfl 28 _ _ rfl w2.heap.size K rfl rfl 28 Z (new_of w2 Z 28) HS.out HSZ.out H1.out ?_))
    have n0 : w.heap.size ≠ w2.heap.size := Nat.ne_of_lt (lt_of D0.out)
    have n1 : w.heap.size + 1 ≠ w2.heap.size := Nat.ne_of_lt (lt_of D1.out)
    have e0 := row_far (old_of D0.out (.cells Z 28)) n0 K
    have e1 := row_far (old_of D1.out (.cells Z 28)) n1 K
    have e2 := row_of (new_of w2 Z 28) K
    have eb := (below_setRow (DB.out.alloc DB.out.size (.cells Z 28)) DB.out.size K).drew
    have HE : Aside0 (ApS K (ba 16 a) (ba 16 b) w2.heap.size w.heap.size (w.heap.size + 1) (((w2.alloc (.cells Z 28)).setRow w2.heap.size K)).drew) := ⟨e2, e0, e1⟩
    have EB := Aside0.mk eb
    clear e0 e1 e2 eb n0 n1 A0 A1 AB C0 C1 CB D0 D1 DB
    generalize (w2.alloc (.cells Z 28)).setRow w2.heap.size K = W6 at *
    generalize w2.heap.size = G at *
    obtain ⟨g, hg⟩ : ∃ g, w.heap.size = g := ⟨_, rfl⟩
    have TA := Aside0.mk (HENC.out a)
    have TB := Aside0.mk (HENC.out b)
    have HX_old : Aside0 (∃ X, eq16 a b = X) := ⟨⟨_, rfl⟩⟩
    obtain ⟨X, hX⟩ := HX_old.out
    have HQ := Aside0.mk (HEQ.out.trans hX)
    have HX := Aside0.mk hX
    clear hX HEQ
    generalize E a 10 = EA at *
    generalize E b 10 = EC at *
    clear HX_old
    rw [hg] at HE ⊢
    refine H_begin (ApS K (ba 16 a) (ba 16 b) G g (g + 1)) (by kernel_rfl) ?_
    refine H_take (i := 0) (v := .agg K) rfl (by kernel_rfl) (by kernel_rfl) (by kernel_rfl) (fun _ _ _ h => h) (by rfl) (fun w' hS => exec_load 28 _ rfl G 0 rfl K _ (rangeA_of hS.1) HU.out rfl HS.out) HE.out ?_
    try simp only [Act.put, List.getElem_toArray, List.getElem_cons_succ, List.getElem_cons_zero, List.setIfInBounds_toArray, List.set_cons_zero, List.set_cons_succ]
    refine H_take (i := 1) (v := .agg (ba 16 a)) rfl (by kernel_rfl) (by kernel_rfl) (by kernel_rfl) (fun _ _ _ h => h) (by rfl) (fun w' hS => exec_load 23 _ rfl g 0 rfl (ba 16 a) _ (rangeA_of hS.2.1) HU3.out rfl (HI.out _)) HE.out ?_
    try simp only [Act.put, List.getElem_toArray, List.getElem_cons_succ, List.getElem_cons_zero, List.setIfInBounds_toArray, List.set_cons_zero, List.set_cons_succ]
    refine H_take (i := 3) (v := .agg K) rfl (by kernel_rfl) (by kernel_rfl) (by kernel_rfl) (fun _ _ _ h => h) (by rfl) (fun w' hS => exec_load 28 _ rfl G 0 rfl K _ (rangeA_of hS.1) HU.out rfl HS.out) HE.out ?_
    try simp only [Act.put, List.getElem_toArray, List.getElem_cons_succ, List.getElem_cons_zero, List.setIfInBounds_toArray, List.set_cons_zero, List.set_cons_succ]
    refine H_take (i := 4) (v := .agg (ba 16 b)) rfl (by kernel_rfl) (by kernel_rfl) (by kernel_rfl) (fun _ _ _ h => h) (by rfl) (fun w' hS => exec_load 23 _ rfl (g + 1) 0 rfl (ba 16 b) _ (rangeA_of hS.2.2) HU3.out rfl (HI.out _)) HE.out ?_
    try simp only [Act.put, List.getElem_toArray, List.getElem_cons_succ, List.getElem_cons_zero, List.setIfInBounds_toArray, List.set_cons_zero, List.set_cons_succ]
    refine H_take (i := 7) (v := .agg (ba 16 a)) rfl (by kernel_rfl) (by kernel_rfl) (by kernel_rfl) (fun _ _ _ h => h) (by rfl) (fun w' hS => exec_load 23 _ rfl g 0 rfl (ba 16 a) _ (rangeA_of hS.2.1) HU3.out rfl (HI.out _)) HE.out ?_
    try simp only [Act.put, List.getElem_toArray, List.getElem_cons_succ, List.getElem_cons_zero, List.setIfInBounds_toArray, List.set_cons_zero, List.set_cons_succ]
    refine H_take (i := 8) (v := .agg (ba 16 b)) rfl (by kernel_rfl) (by kernel_rfl) (by kernel_rfl) (fun _ _ _ h => h) (by rfl) (fun w' hS => exec_load 23 _ rfl (g + 1) 0 rfl (ba 16 b) _ (rangeA_of hS.2.2) HU3.out rfl (HI.out _)) HE.out ?_
    try simp only [Act.put, List.getElem_toArray, List.getElem_cons_succ, List.getElem_cons_zero, List.setIfInBounds_toArray, List.set_cons_zero, List.set_cons_succ]
    refine H_take (i := 9) (v := .bool X) rfl (by kernel_rfl) (by kernel_rfl) (by kernel_rfl) (fun _ _ _ h => h) (by rfl) (fun w' hS => (exec_eq23 _ _ _ rfl a b rfl rfl w').trans (by rw [HX.out])) HE.out ?_
    try simp only [Act.put, List.getElem_toArray, List.getElem_cons_succ, List.getElem_cons_zero, List.setIfInBounds_toArray, List.set_cons_zero, List.set_cons_succ]
    refine H_only (i := 2) (by kernel_rfl) rfl (by rfl) (fun KK hK => ?_)
    go_simp
    (go_at_call 8; with_reducible refine (TA.out _).mono ?_)
    rintro e w3 ⟨rfl, hb⟩
    have HF : Aside0 (ApS K (ba 16 a) (ba 16 b) G g (g + 1) w3) := ⟨below_of HE.out.1 hb, below_of HE.out.2.1 hb, below_of HE.out.2.2 hb⟩
    have FB := Aside0.mk (EB.out.trans (hb.mono EB.out.size))
    refine hK _ _ ⟨HF.out, ?_⟩
    clear hb hK KK
    try simp only [Act.put, List.getElem_toArray, List.getElem_cons_succ, List.getElem_cons_zero, List.setIfInBounds_toArray, List.set_cons_zero, List.set_cons_succ]
    refine H_only (i := 5) (by kernel_rfl) rfl (by rfl) (fun KK hK => ?_)
    go_simp
    (go_at_call 8; with_reducible refine (TB.out _).mono ?_)
    rintro e w4 ⟨rfl, hb⟩
    have HG : Aside0 (ApS K (ba 16 a) (ba 16 b) G g (g + 1) w4) := ⟨below_of HF.out.1 hb, below_of HF.out.2.1 hb, below_of HF.out.2.2 hb⟩
    have GB := Aside0.mk (FB.out.trans (hb.mono FB.out.size))
    refine hK _ _ ⟨HG.out, ?_⟩
    clear hb hK KK
    try simp only [Act.put, List.getElem_toArray, List.getElem_cons_succ, List.getElem_cons_zero, List.setIfInBounds_toArray, List.set_cons_zero, List.set_cons_succ]
    refine H_take (i := 6) (v := .bool X) rfl (by kernel_rfl) (by kernel_rfl) (by kernel_rfl) (fun _ _ _ h => h) (by rfl) (fun w' hS => (exec_eq23 _ _ _ rfl EA EC rfl rfl w').trans (by rw [HQ.out])) HG.out ?_
    try simp only [Act.put, List.getElem_toArray, List.getElem_cons_succ, List.getElem_cons_zero, List.setIfInBounds_toArray, List.set_cons_zero, List.set_cons_succ]
    refine H_take (i := 10) (v := .bool true) rfl (by kernel_rfl) (by kernel_rfl) (by kernel_rfl) (fun _ _ _ h => h) (by rfl) (fun w' hS => by cases X <;> go_simp) HG.out ?_
    try simp only [Act.put, List.getElem_toArray, List.getElem_cons_succ, List.getElem_cons_zero, List.setIfInBounds_toArray, List.set_cons_zero, List.set_cons_succ]
    refine H_take (i := 11) (v := .bool true) rfl (by kernel_rfl) (by kernel_rfl) (by kernel_rfl) (fun _ _ _ h => h) (by rfl) (fun w' hS => by go_simp) HG.out ?_
    try simp only [Act.put, List.getElem_toArray, List.getElem_cons_succ, List.getElem_cons_zero, List.setIfInBounds_toArray, List.set_cons_zero, List.set_cons_succ]
    refine H_take (i := 12) (v := .agg K) rfl (by kernel_rfl) (by kernel_rfl) (by kernel_rfl) (fun _ _ _ h => h) (by rfl) (fun w' hS => exec_load 28 _ rfl G 0 rfl K _ (rangeA_of hS.1) HU.out rfl HS.out) HG.out ?_
    try simp only [Act.put, List.getElem_toArray, List.getElem_cons_succ, List.getElem_cons_zero, List.setIfInBounds_toArray, List.set_cons_zero, List.set_cons_succ]
    refine H_take (i := 15) (v := .string d) rfl (by kernel_rfl) (by kernel_rfl) (by kernel_rfl) (fun _ _ _ h => h) (by rfl) (fun w' hS => by go_simp) HG.out ?_
    try simp only [Act.put, List.getElem_toArray, List.getElem_cons_succ, List.getElem_cons_zero, List.setIfInBounds_toArray, List.set_cons_zero, List.set_cons_succ]
    refine H_two (i := 13) (k := 16) (by kernel_rfl) rfl rfl (by rfl) (by rfl) (fun KK hK => ?_) (fun KK hK => ?_)
    · go_simp
      (go_at_call 9; with_reducible refine (HRND.out _).mono ?_)
      rintro e w5 ⟨rfl, hb⟩
      have HH : Aside0 (ApS K (ba 16 a) (ba 16 b) G g (g + 1) w5) := ⟨below_of HG.out.1 hb, below_of HG.out.2.1 hb, below_of HG.out.2.2 hb⟩
      have HB5 := Aside0.mk (GB.out.trans (hb.mono GB.out.size))
      refine hK _ _ ⟨HH.out, ?_⟩
      clear hb hK KK
      try simp only [Act.put, List.getElem_toArray, List.getElem_cons_succ, List.getElem_cons_zero, List.setIfInBounds_toArray, List.set_cons_zero, List.set_cons_succ]
      refine H_take (i := 14) (v := .agg (ba 16 (sb d))) rfl (by kernel_rfl) (by kernel_rfl) (by kernel_rfl) (fun _ _ _ h => h) (by rfl) (fun w' hS => (exec_row0 _ rfl WF rfl rfl w').trans (by rw [HROW.out])) HH.out ?_
      try simp only [Act.put, List.getElem_toArray, List.getElem_cons_succ, List.getElem_cons_zero, List.setIfInBounds_toArray, List.set_cons_zero, List.set_cons_succ]
      refine H_only (i := 16) (by kernel_rfl) rfl (by rfl) (fun KK hK => ?_)
      obtain ⟨c, w6, hcv, hrg, hb, hlt⟩ := bytes_run d HD.out w5
      go_simp
      have HI6 : Aside0 (ApS K (ba 16 a) (ba 16 b) G g (g + 1) w6) := ⟨below_of HH.out.1 hb, below_of HH.out.2.1 hb, below_of HH.out.2.2 hb⟩
      have HB6 := Aside0.mk (HB5.out.trans (hb.mono HB5.out.size))
      refine hK _ _ ⟨HI6.out, ?_⟩
      have RG := Aside0.mk hrg
      have RL := Aside0.mk hlt
      clear hb hK KK hcv hrg hlt
      try simp only [Act.put, List.getElem_toArray, List.getElem_cons_succ, List.getElem_cons_zero, List.setIfInBounds_toArray, List.set_cons_zero, List.set_cons_succ]
      refine H_take (i := 17) (v := .pointer (some ⟨w5.heap.size, 0, none⟩)) rfl (by kernel_rfl) (by kernel_rfl) (by kernel_rfl) (fun _ _ _ h => h) (by rfl) (fun w' hS => exec_arr _ rfl _ _ rfl w') HI6.out ?_
      try simp only [Act.put, List.getElem_toArray, List.getElem_cons_succ, List.getElem_cons_zero, List.setIfInBounds_toArray, List.set_cons_zero, List.set_cons_succ]
      refine H_weak (S' := fun w => ApS K (ba 16 a) (ba 16 b) G g (g + 1) w ∧ w.rangeAt w5.heap.size 0 (ba 16 (sb d)).toList) (fun _ h => h.1) _ _ _ _ ?_
      refine H_take (i := 18) (v := .agg (ba 16 (sb d))) rfl (by kernel_rfl) (by kernel_rfl) (by kernel_rfl) (fun _ _ _ h => h) (by rfl) (fun w' hS => exec_load 23 _ rfl w5.heap.size 0 rfl (ba 16 (sb d)) _ hS.2 HU3.out rfl (HI.out _)) ⟨HI6.out, RG.out⟩ ?_
      try simp only [Act.put, List.getElem_toArray, List.getElem_cons_succ, List.getElem_cons_zero, List.setIfInBounds_toArray, List.set_cons_zero, List.set_cons_succ]
      refine H_take (i := 19) (v := .bool true) rfl (by kernel_rfl) (by kernel_rfl) (by kernel_rfl) (fun _ _ _ h => h) (by rfl) (fun w' hS => (exec_eq23 _ _ _ rfl (sb d) (sb d) rfl rfl w').trans (by rw [eq16_self])) ⟨HI6.out, RG.out⟩ ?_
      try simp only [Act.put, List.getElem_toArray, List.getElem_cons_succ, List.getElem_cons_zero, List.setIfInBounds_toArray, List.set_cons_zero, List.set_cons_succ]
      refine H_take (i := 20) (v := .bool true) rfl (by kernel_rfl) (by kernel_rfl) (by kernel_rfl) (fun _ _ _ h => h) (by rfl) (fun w' hS => by go_simp) ⟨HI6.out, RG.out⟩ ?_
      try simp only [Act.put, List.getElem_toArray, List.getElem_cons_succ, List.getElem_cons_zero, List.setIfInBounds_toArray, List.set_cons_zero, List.set_cons_succ]
      refine H_take (i := 21) (v := .bool true) rfl (by kernel_rfl) (by kernel_rfl) (by kernel_rfl) (fun _ _ _ h => h) (by rfl) (fun w' hS => by go_simp) ⟨HI6.out, RG.out⟩ ?_
      try simp only [Act.put, List.getElem_toArray, List.getElem_cons_succ, List.getElem_cons_zero, List.setIfInBounds_toArray, List.set_cons_zero, List.set_cons_succ]
      refine wpAnyH_done (by kernel_rfl) ?_ _
      go_wp2
      go_ret
      exact ⟨rfl, hg ▸ HB6.out⟩
    · obtain ⟨c, w6, hcv, hrg, hb, hlt⟩ := bytes_run d HD.out w4
      go_simp
      have HI6 : Aside0 (ApS K (ba 16 a) (ba 16 b) G g (g + 1) w6) := ⟨below_of HG.out.1 hb, below_of HG.out.2.1 hb, below_of HG.out.2.2 hb⟩
      have HB6 := Aside0.mk (GB.out.trans (hb.mono GB.out.size))
      refine hK _ _ ⟨HI6.out, ?_⟩
      have RG := Aside0.mk hrg
      have RL := Aside0.mk hlt
      clear hb hK KK hcv hrg hlt
      try simp only [Act.put, List.getElem_toArray, List.getElem_cons_succ, List.getElem_cons_zero, List.setIfInBounds_toArray, List.set_cons_zero, List.set_cons_succ]
      refine H_take (i := 17) (v := .pointer (some ⟨w4.heap.size, 0, none⟩)) rfl (by kernel_rfl) (by kernel_rfl) (by kernel_rfl) (fun _ _ _ h => h) (by rfl) (fun w' hS => exec_arr _ rfl _ _ rfl w') HI6.out ?_
      try simp only [Act.put, List.getElem_toArray, List.getElem_cons_succ, List.getElem_cons_zero, List.setIfInBounds_toArray, List.set_cons_zero, List.set_cons_succ]
      refine H_weak (S' := fun w => ApS K (ba 16 a) (ba 16 b) G g (g + 1) w ∧ w.rangeAt w4.heap.size 0 (ba 16 (sb d)).toList) (fun _ h => h.1) _ _ _ _ ?_
      refine H_take (i := 18) (v := .agg (ba 16 (sb d))) rfl (by kernel_rfl) (by kernel_rfl) (by kernel_rfl) (fun _ _ _ h => h) (by rfl) (fun w' hS => exec_load 23 _ rfl w4.heap.size 0 rfl (ba 16 (sb d)) _ hS.2 HU3.out rfl (HI.out _)) ⟨HI6.out, RG.out⟩ ?_
      try simp only [Act.put, List.getElem_toArray, List.getElem_cons_succ, List.getElem_cons_zero, List.setIfInBounds_toArray, List.set_cons_zero, List.set_cons_succ]
      refine H_only (i := 13) (by kernel_rfl) rfl (by rfl) (fun KK hK => ?_)
      go_simp
      (go_at_call 9; with_reducible refine (HRND.out _).mono ?_)
      rintro e w5 ⟨rfl, hb⟩
      have HH : Aside0 (ApS K (ba 16 a) (ba 16 b) G g (g + 1) w5 ∧ w5.rangeAt w4.heap.size 0 (ba 16 (sb d)).toList) := ⟨⟨below_of HI6.out.1 hb, below_of HI6.out.2.1 hb, below_of HI6.out.2.2 hb⟩, range_keep RG.out RL.out hb⟩
      have HB5 := Aside0.mk (HB6.out.trans (hb.mono HB6.out.size))
      refine hK _ _ ⟨HH.out, ?_⟩
      clear hb hK KK
      try simp only [Act.put, List.getElem_toArray, List.getElem_cons_succ, List.getElem_cons_zero, List.setIfInBounds_toArray, List.set_cons_zero, List.set_cons_succ]
      refine H_take (i := 14) (v := .agg (ba 16 (sb d))) rfl (by kernel_rfl) (by kernel_rfl) (by kernel_rfl) (fun _ _ _ h => h) (by rfl) (fun w' hS => (exec_row0 _ rfl WF rfl rfl w').trans (by rw [HROW.out])) HH.out ?_
      try simp only [Act.put, List.getElem_toArray, List.getElem_cons_succ, List.getElem_cons_zero, List.setIfInBounds_toArray, List.set_cons_zero, List.set_cons_succ]
      refine H_take (i := 19) (v := .bool true) rfl (by kernel_rfl) (by kernel_rfl) (by kernel_rfl) (fun _ _ _ h => h) (by rfl) (fun w' hS => (exec_eq23 _ _ _ rfl (sb d) (sb d) rfl rfl w').trans (by rw [eq16_self])) HH.out ?_
      try simp only [Act.put, List.getElem_toArray, List.getElem_cons_succ, List.getElem_cons_zero, List.setIfInBounds_toArray, List.set_cons_zero, List.set_cons_succ]
      refine H_take (i := 20) (v := .bool true) rfl (by kernel_rfl) (by kernel_rfl) (by kernel_rfl) (fun _ _ _ h => h) (by rfl) (fun w' hS => by go_simp) HH.out ?_
      try simp only [Act.put, List.getElem_toArray, List.getElem_cons_succ, List.getElem_cons_zero, List.setIfInBounds_toArray, List.set_cons_zero, List.set_cons_succ]
      refine H_take (i := 21) (v := .bool true) rfl (by kernel_rfl) (by kernel_rfl) (by kernel_rfl) (fun _ _ _ h => h) (by rfl) (fun w' hS => by go_simp) HH.out ?_
      try simp only [Act.put, List.getElem_toArray, List.getElem_cons_succ, List.getElem_cons_zero, List.setIfInBounds_toArray, List.set_cons_zero, List.set_cons_succ]
      refine wpAnyH_done (by kernel_rfl) ?_ _
      go_wp2
      go_ret
      exact ⟨rfl, hg ▸ HB5.out⟩
  · have hnew := fun w => new_other d hd w
    obtain ⟨Z, hZ⟩ : ∃ Z, kc false (fun _ => 0#8) (fun _ => 0#8) = Z := ⟨_, rfl⟩
    have hs := info28 false (fun _ => 0#8) (fun _ => 0#8)
    have h1 := kc_one false (fun _ => 0#8) (fun _ => 0#8)
    rw [hZ] at hz hs h1
    simp only [hZ] at hnew
    have HNEW := Aside0.mk hnew
    have HS := Aside0.mk hs
    have H1 := Aside0.mk h1
    clear hnew hs h1 hZ hd
    go_enter Try.func3, Try.ntmps3
    go_wp2_with (first
      | ((go_at_call 6; with_reducible refine (HAW.out _).mono ?_); rintro e w1 ⟨rfl, hb⟩; have CB := Aside0.mk (AB.out.trans (hb.mono AB.out.size)); clear hb)
      | ((go_at_call 7; with_reducible refine (HNEW.out _).mono ?_); rintro e w2 ⟨rfl, hb⟩; have DB := Aside0.mk (CB.out.trans (hb.mono CB.out.size)); clear hb)
      | (refine wpList_store_row rfl 28 _ _ rfl w2.heap.size Z rfl rfl 28 Z (new_of w2 Z 28) HS.out rfl H1.out ?_))
    go_ret
    exact ⟨rfl, below_setRow (DB.out.alloc DB.out.size _) DB.out.size _⟩
end Go.Proofs.Ytiblkbkdfebfbaa.Aes
