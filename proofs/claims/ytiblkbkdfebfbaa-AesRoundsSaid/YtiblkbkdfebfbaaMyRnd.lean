/- AesRounds: the walk. No conditions. -/
import Derived.Test.YtiblkbkdfebfbaaMyApart
namespace Go.Proofs.Ytiblkbkdfebfbaa.Aes
open Go.RowKit Go.Proofs.Ytiblkbkdfebfbaa.Own

theorem rowOf_rows (sf f0 : Nat → B8) (k i : Nat) (hi : i < 16) : rowOf (wr0 sf f0) k i = rows sf f0 k i := by
  unfold rowOf wr0
  rw [show (16 * k + i) / 16 = k by omega, show (16 * k + i) % 16 = i by omega]
theorem range176 (sf f0 : Nat → B8) (k : Nat) (h : k < 11) (g : Nat) (w : World) (hg : Bx w g (ba 176 (wr0 sf f0)) 25) : w.rangeAt g (k * 16) (ba 16 (rows sf f0 k)).toList := by
  intro j v hv
  have hv' : (ba 16 (rows sf f0 k))[j]? = some v := by rw [← hv]; exact Array.getElem?_toList.symm
  have hj : j < 16 := by
    rcases Nat.lt_or_ge j 16 with h | h
    · exact h
    · rw [Array.getElem?_eq_none (by rw [ba_size]; exact h)] at hv'
      cases hv'
  rw [cell_of hg, ba_get 176 _ _ (by omega), ← hv', ba_get 16 _ j hj, ← rowOf_rows sf f0 k j hj, Nat.mul_comm]
  rfl

theorem H_start {P : Program} {ops : Array Oper} {Q : Exit → Act → World → Prop} {id : Nat} {a : Act} {w : World} (n : Nat) (hn : ops.size = n) (S : World → Prop) (hm : P.follows .mixedOrders = true) (h : wpAnyH P .any ops Q S n (Array.replicate n false) a w.drew) : (Code.region id ops true).wp P Q a w := by
  subst hn
  exact H_begin S hm h
theorem H_store {P : Program} {ops : Array Oper} {Q : Exit → Act → World → Prop} {md : Region.Mode} {S : World → Prop} {i fuel : Nat} {o : Oper} {listed : Array Bool} {a : Act} {w : World}
    (hr : Region.ready md ops listed = [i]) (ho : ops[i]? = some o) (hw : Region.wanted o (yielded ops a.tmps) = true) (ty : TypeId) (x y : Operand) (hop : o.op = .store ty x y)
    (g : Nat) (cells : Array Value) (hx : a.eval x = .pointer (some ⟨g, 0, none⟩)) (hy : a.eval y = .agg cells) (t : TypeId) (old : Array Value) (hg : Bx w g old t) (hi : (P.info? ty).map (·.size) = some cells.size)
    (hold : old.size = cells.size) (h1 : cells.all (·.oneCell') = true) (hS : S (w.setRow g cells)) (h : wpAnyH P md ops Q S fuel (listed.setIfInBounds i true) (a.put o.dst undef) (w.setRow g cells)) : wpAnyH P md ops Q S (fuel + 1) listed a w :=
  H_only hr ho hw (fun _ hK => wp_store_row ty x y hop g cells hx hy t old hg hi hold h1 (hK _ _ ⟨hS, h⟩))
/-- The two stores of a round. -/
def st9 : Oper := { dst := none, op := .store 23 (.tmp 9) (.tmp 33), type := 0, pos := "law.go:87", after := #[⟨7, .data⟩, ⟨3, .data⟩, ⟨0, .phase⟩, ⟨1, .phase⟩, ⟨2, .phase⟩, ⟨3, .phase⟩, ⟨4, .textOnly .lateStores⟩, ⟨5, .textOnly .lateStores⟩, ⟨6, .textOnly .lateStores⟩, ⟨7, .phase⟩, ⟨8, .phase⟩], guard := none }
def st10 : Oper := { dst := none, op := .store 23 (.tmp 10) (.tmp 36), type := 0, pos := "law.go:87", after := #[⟨8, .data⟩, ⟨6, .data⟩, ⟨9, .chain⟩, ⟨0, .phase⟩, ⟨1, .phase⟩, ⟨2, .phase⟩, ⟨3, .phase⟩, ⟨4, .phase⟩, ⟨5, .phase⟩, ⟨6, .phase⟩, ⟨7, .phase⟩, ⟨8, .phase⟩, ⟨9, .phase⟩], guard := none }
theorem two_new (wr : World) (X : Array Value) : Bx ((wr.alloc (.cells X 23)).alloc (.cells X 23)).drew wr.heap.size X 23 ∧ Bx ((wr.alloc (.cells X 23)).alloc (.cells X 23)).drew (wr.heap.size + 1) X 23 := by
  refine ⟨old_of (new_of wr X 23) _, ?_⟩
  have h := new_of (wr.alloc (.cells X 23)) X 23
  rw [show (wr.alloc (.cells X 23)).heap.size = wr.heap.size + 1 by simp] at h
  exact h

def RndRel (WF : Nat → B8) (w0 : World) (g5 g6 : Nat) (t r : Value) (wr : World) : Prop :=
  ∃ k : Nat, k ≤ 10 ∧ t = .int .u8 ((tn k).toNat : Int) ∧ r = .int .i64 ((k + 1 : Nat) : Int) ∧ Bx wr g5 (ba 176 WF) 25 ∧ Bx wr g6 (ba 256 sT) 26 ∧ Below w0.heap.size w0 wr ∧ g5 < wr.heap.size

set_option linter.unusedSimpArgs false in
set_option maxRecDepth 30000 in
set_option maxHeartbeats 8000000 in
theorem rounds_row (d : ByteArray) (w : World) : Calls Try.prog 4 #[.string d] w fun e w' => e = .returned (.bool true) ∧ Below w.heap.size w w' := by
  have HAW := Aside0.mk awake_holds
  by_cases hd : d.size = 16
  · have hnew := fun w => new_16 d hd w
    have hrnd := fun w => rounds_any (wr0 (outF 255) (sb d)) (outF 255) w
    have hs := info28 true (wr0 (outF 255) (sb d)) (outF 255)
    have h1 := kc_one true (wr0 (outF 255) (sb d)) (outF 255)
    have hsz : (kc false (fun _ => 0#8) (fun _ => 0#8)).size = (kc true (wr0 (outF 255) (sb d)) (outF 255)).size := by rw [kc_size, kc_size]
    have hz := zero28k
    have hbox := box_any
    rw [box_eq] at hnew hrnd hs h1 hsz hbox
    obtain ⟨Z, hZ⟩ : ∃ Z, kc false (fun _ => 0#8) (fun _ => 0#8) = Z := ⟨_, rfl⟩
    rw [hZ] at hz hsz
    generalize kc true (wr0 sT (sb d)) sT = K at *
    have hrow := row0_of d
    obtain ⟨WF, hWF⟩ : ∃ WF, wr0 sT (sb d) = WF := ⟨_, rfl⟩
    rw [hWF] at hrow
    simp only [hWF] at hrnd
    have HRG : Aside0 (∀ k, k < 11 → ∀ g w, Bx w g (ba 176 WF) 25 → w.rangeAt g (k * 16) (ba 16 (rows sT (sb d) k)).toList) := ⟨fun k hk g w h => range176 sT (sb d) k hk g w (hWF.symm ▸ h)⟩
    have HNX : Aside0 (∀ k, rows sT (sb d) (k + 1) = nx sT (rows sT (sb d) k) (tn k)) := ⟨fun k => rfl⟩
    have HR0 : Aside0 (rows sT (sb d) 0 = sb d) := ⟨rfl⟩
    generalize rows sT (sb d) = R at *
    have HNEW := Aside0.mk hnew
    have HRND := Aside0.mk hrnd
    have HBOX := Aside0.mk hbox
    have HROW := Aside0.mk hrow
    have HS := Aside0.mk hs
    have H1 := Aside0.mk h1
    have HSZ := Aside0.mk hsz
    have HD := Aside0.mk hd
    have HU := Aside0.mk Try.underlying28
    have HU3 := Aside0.mk Try.underlying23
    have HI := Aside0.mk info23
    have HI5 : Aside0 ((Try.prog.info? 25).map (·.size) = some (ba 176 WF).size) := ⟨by rw [ba_size]; kernel_rfl⟩
    have HI6 : Aside0 ((Try.prog.info? 26).map (·.size) = some (ba 256 sT).size) := ⟨by rw [ba_size]; kernel_rfl⟩
    have hz3 : ∀ w, (zeroValue 23).run Try.prog w = .ok (.agg (ba 16 fun _ => 0#8)) w := fun w => by rw [zero23, ba_zero]
    have hz5 : ∀ w, (zeroValue 25).run Try.prog w = .ok (.agg (ba 176 fun _ => 0#8)) w := fun w => by rw [zero25, ba_zero]
    have hz6 : ∀ w, (zeroValue 26).run Try.prog w = .ok (.agg (ba 256 fun _ => 0#8)) w := fun w => by rw [zero26, ba_zero]
    clear hnew hrnd hbox hrow hs h1 hsz hZ hWF
    go_enter Try.func4, Try.ntmps4
    go_wp2_with (first
      | ((go_at_call 6; with_reducible refine (HAW.out _).mono ?_); rintro e w1 ⟨rfl, hb⟩; have CB := Aside0.mk hb; clear hb)
      | ((go_at_call 7; with_reducible refine (HNEW.out _).mono ?_); rintro e w2 ⟨rfl, hb⟩; have DB := Aside0.mk (CB.out.trans (hb.mono CB.out.size)); clear hb)
      | (refine wpList_store_row rfl 28 _ _ rfl w2.heap.size K rfl rfl 28 Z (new_of w2 Z 28) HS.out HSZ.out H1.out ?_)
      | (refine wpList_load_row rfl 28 _ rfl w2.heap.size rfl 28 K (0, 0) _ (row_of (new_of w2 Z 28) K) HU.out rfl HS.out ?_)
      | ((go_at_call 9; with_reducible refine (HRND.out _).mono ?_); rintro e w3 ⟨rfl, hb⟩; have eb := below_setRow (DB.out.alloc DB.out.size (.cells Z 28)) DB.out.size K; have EB := Aside0.mk (eb.trans (hb.mono eb.size)); clear hb eb)
      | ((go_at_call 10; with_reducible refine (HBOX.out _).mono ?_); rintro e w4 ⟨rfl, hb⟩; have FB := Aside0.mk (EB.out.trans (hb.mono EB.out.size)); clear hb; have sz : (w4.alloc (.cells (ba 176 fun _ => 0#8) 25)).heap.size = w4.heap.size + 1 := (by simp); have n6 := (sz ▸ new_of (w4.alloc (.cells (ba 176 fun _ => 0#8) 25)) (ba 256 fun _ => 0#8) 26 : Bx _ (w4.heap.size + 1) _ 26); have N5 := Aside0.mk (old_of (new_of w4 (ba 176 fun _ => 0#8) 25) (.cells (ba 256 fun _ => 0#8) 26)); have N6 := Aside0.mk n6; have NB := Aside0.mk ((FB.out.alloc FB.out.size (.cells (ba 176 fun _ => 0#8) 25)).alloc (by rw [sz]; exact Nat.le_succ_of_le FB.out.size) (.cells (ba 256 fun _ => 0#8) 26)); clear sz n6)
      | (refine wpList_store_row rfl 25 _ _ rfl w4.heap.size (ba 176 WF) rfl rfl 25 (ba 176 fun _ => 0#8) N5.out HI5.out (by rw [ba_size, ba_size]) (ba_one _ _) ?_)
      | (refine wpList_store_row rfl 26 _ _ rfl (w4.heap.size + 1) (ba 256 sT) rfl rfl 26 (ba 256 fun _ => 0#8) (row_far N6.out (Nat.succ_ne_self _) _) HI6.out (by rw [ba_size, ba_size]) (ba_one _ _) ?_))
    have f5 := row_far (row_of N5.out (ba 176 WF)) (Nat.ne_of_lt (Nat.lt_succ_self _)) (ba 256 sT)
    have f6 := row_of (row_far N6.out (Nat.succ_ne_self _) (ba 176 WF)) (ba 256 sT)
    have fb := below_setRow (below_setRow NB.out FB.out.size (ba 176 WF)) (Nat.le_succ_of_le FB.out.size) (ba 256 sT)
    have S0 : RndRel WF w w4.heap.size (w4.heap.size + 1) (.int .u8 1) (.int .i64 1) ((((w4.alloc (.cells (ba 176 fun _ => 0#8) 25)).alloc (.cells (ba 256 fun _ => 0#8) 26)).setRow w4.heap.size (ba 176 WF)).setRow (w4.heap.size + 1) (ba 256 sT)) := ⟨0, by omega, rfl, rfl, f5, f6, fb, lt_of f5⟩
    clear f5 f6 fb N5 N6 NB FB EB DB CB
    generalize (((w4.alloc (.cells (ba 176 fun _ => 0#8) 25)).alloc (.cells (ba 256 fun _ => 0#8) 26)).setRow w4.heap.size (ba 176 WF)).setRow (w4.heap.size + 1) (ba 256 sT) = W5 at *
    generalize w4.heap.size + 1 = g6 at *
    generalize w4.heap.size = g5 at *
    go_loopw [7, 8] (fun t r wr => RndRel WF w g5 g6 t r wr) (fun _ r _ => 11 - (RowKit.intOf r).toNat)
    case atStart => exact S0
    case round =>
      obtain ⟨k, hk, rfl, rfl, b5, b6, hb, hg5⟩ := hrel
      clear S0
      by_cases h10 : k < 10
      · have hkI : ((k + 1 : Nat) : Int) < 11 := by omega
        have w0 : IntKind.i64.wrap (k : Int) = (k : Int) := wrap_sm _ (by omega) (by omega)
        have q0 : (0 : Int) ≤ (k : Int) := by omega
        have q1 : (k : Int) < 11 := by omega
        have q2 : (0 : Int) ≤ (k : Int) + 1 := by omega
        have q3 : (k : Int) + 1 < 11 := by omega
        have r0 := HRG.out k (by omega)
        have r1 := HRG.out (k + 1) (by omega)
        have T2 := Aside0.mk (times_two (tn k))
        have hnx := HNX.out k
        obtain ⟨L, hL⟩ : ∃ L, R k = L := ⟨_, rfl⟩
        obtain ⟨N, hN⟩ : ∃ N, R (k + 1) = N := ⟨_, rfl⟩
        rw [hL] at r0 hnx
        rw [hN] at r1 hnx
        have hT : tm (tn k) 2#8 = tn (k + 1) := rfl
        rw [hT] at T2
        have HT := Aside0.mk (Eq.refl (tn (k + 1)))
        have R0 := Aside0.mk r0
        have R1 := Aside0.mk r1
        have HX := Aside0.mk hnx
        have HE : Aside0 (Bx wr.drew g5 (ba 176 WF) 25) := ⟨b5⟩
        have H6 : Aside0 (Bx wr.drew g6 (ba 256 sT) 26) := ⟨b6⟩
        have HB : Aside0 (Below w.heap.size w wr.drew) := ⟨hb.drew⟩
        have HK := Aside0.mk h10
        clear r0 r1 hnx hL hN hT b5 b6 hb h10 hk
        go_wp2
        refine H_start 11 rfl (fun w => Bx w g5 (ba 176 WF) 25) (by kernel_rfl) ?_
        refine H_take (i := 0) (v := .int .i64 ((k + 1 : Nat) : Int)) rfl (by kernel_rfl) (by kernel_rfl) (by kernel_rfl) (fun _ _ _ h => h) (by rfl) (fun w' hS => rfl) HE.out ?_
        try simp only [Act.put, List.getElem_toArray, List.getElem_cons_succ, List.getElem_cons_zero, List.setIfInBounds_toArray, List.set_cons_zero, List.set_cons_succ]
        refine H_take (i := 1) (v := .int .i64 (k : Int)) rfl (by kernel_rfl) (by kernel_rfl) (by kernel_rfl) (fun _ _ _ h => h) (by rfl) (fun w' hS => by go_simp) HE.out ?_
        try simp only [Act.put, List.getElem_toArray, List.getElem_cons_succ, List.getElem_cons_zero, List.setIfInBounds_toArray, List.set_cons_zero, List.set_cons_succ]
        refine H_take (i := 2) (v := .pointer (some ⟨g5, k * 16, none⟩)) rfl (by kernel_rfl) (by kernel_rfl) (by kernel_rfl) (fun _ _ _ h => h) (by rfl) (fun w' hS => by go_simp) HE.out ?_
        try simp only [Act.put, List.getElem_toArray, List.getElem_cons_succ, List.getElem_cons_zero, List.setIfInBounds_toArray, List.set_cons_zero, List.set_cons_succ]
        refine H_take (i := 3) (v := .agg (ba 16 L)) rfl (by kernel_rfl) (by kernel_rfl) (by kernel_rfl) (fun _ _ _ h => h) (by rfl) (fun w' hS => exec_load 23 _ rfl g5 (k * 16) rfl (ba 16 L) _ (R0.out _ _ hS) HU3.out rfl (HI.out _)) HE.out ?_
        try simp only [Act.put, List.getElem_toArray, List.getElem_cons_succ, List.getElem_cons_zero, List.setIfInBounds_toArray, List.set_cons_zero, List.set_cons_succ]
        refine H_take (i := 4) (v := .int .i64 ((k + 1 : Nat) : Int)) rfl (by kernel_rfl) (by kernel_rfl) (by kernel_rfl) (fun _ _ _ h => h) (by rfl) (fun w' hS => rfl) HE.out ?_
        try simp only [Act.put, List.getElem_toArray, List.getElem_cons_succ, List.getElem_cons_zero, List.setIfInBounds_toArray, List.set_cons_zero, List.set_cons_succ]
        refine H_take (i := 5) (v := .pointer (some ⟨g5, (k + 1) * 16, none⟩)) rfl (by kernel_rfl) (by kernel_rfl) (by kernel_rfl) (fun _ _ _ h => h) (by rfl) (fun w' hS => by go_simp) HE.out ?_
        try simp only [Act.put, List.getElem_toArray, List.getElem_cons_succ, List.getElem_cons_zero, List.setIfInBounds_toArray, List.set_cons_zero, List.set_cons_succ]
        refine H_take (i := 6) (v := .agg (ba 16 N)) rfl (by kernel_rfl) (by kernel_rfl) (by kernel_rfl) (fun _ _ _ h => h) (by rfl) (fun w' hS => exec_load 23 _ rfl g5 ((k + 1) * 16) rfl (ba 16 N) _ (R1.out _ _ hS) HU3.out rfl (HI.out _)) HE.out ?_
        try simp only [Act.put, List.getElem_toArray, List.getElem_cons_succ, List.getElem_cons_zero, List.setIfInBounds_toArray, List.set_cons_zero, List.set_cons_succ]
        have PP := Aside0.mk (two_new wr (ba 16 fun _ => 0#8))
        have P5 : Aside0 (Bx ((wr.alloc (.cells (ba 16 fun _ => 0#8) 23)).alloc (.cells (ba 16 fun _ => 0#8) 23)).drew g5 (ba 176 WF) 25) := ⟨old_of (old_of HE.out _) _⟩
        have P6 : Aside0 (Bx ((wr.alloc (.cells (ba 16 fun _ => 0#8) 23)).alloc (.cells (ba 16 fun _ => 0#8) 23)).drew g6 (ba 256 sT) 26) := ⟨old_of (old_of H6.out _) _⟩
        have PB : Aside0 (Below w.heap.size w ((wr.alloc (.cells (ba 16 fun _ => 0#8) 23)).alloc (.cells (ba 16 fun _ => 0#8) 23)).drew) := ⟨((HB.out.alloc HB.out.size _).alloc (Nat.le_trans HB.out.size (by simp)) _)⟩
        have PG : Aside0 (w.heap.size ≤ wr.heap.size ∧ g5 < wr.heap.size ∧ g6 < wr.heap.size) := ⟨HB.out.size, lt_of HE.out, lt_of H6.out⟩
        refine H_two (i := 7) (k := 8) (by kernel_rfl) rfl rfl (by rfl) (by rfl) (fun KK hK => ?_) (fun KK hK => ?_)
        · go_simp
          refine hK _ _ ⟨old_of HE.out _, ?_⟩
          clear hK KK
          try simp only [st9, st10, Act.put, List.getElem_toArray, List.getElem_cons_succ, List.getElem_cons_zero, List.setIfInBounds_toArray, List.set_cons_zero, List.set_cons_succ]
          refine H_only (i := 8) (by kernel_rfl) rfl (by rfl) (fun KK hK => ?_)
          go_simp
          refine hK _ _ ⟨P5.out, ?_⟩
          clear hK KK
          try simp only [st9, st10, Act.put, List.getElem_toArray, List.getElem_cons_succ, List.getElem_cons_zero, List.setIfInBounds_toArray, List.set_cons_zero, List.set_cons_succ]
          clear HE H6 HB
          generalize ((wr.alloc (.cells (ba 16 fun _ => 0#8) 23)).alloc (.cells (ba 16 fun _ => 0#8) 23)).drew = W7 at *
          generalize wr.heap.size = n at *
          have A5 := Aside0.mk (row_far P5.out (Nat.ne_of_lt PG.out.2.1) (ba 16 L))
          have A6 := Aside0.mk (row_far P6.out (Nat.ne_of_lt PG.out.2.2) (ba 16 L))
          have AP := Aside0.mk (row_of PP.out.1 (ba 16 L))
          have AQ := Aside0.mk (row_far PP.out.2 (Nat.succ_ne_self n) (ba 16 L))
          have AB := Aside0.mk (below_setRow PB.out PG.out.1 (ba 16 L))
          refine H_store (i := 9) (o := st9) (by kernel_rfl) (by kernel_rfl) (by rfl) 23 _ _ rfl (n) (ba 16 L) rfl rfl 23 _ PP.out.1 (HI.out _) (by rw [ba_size, ba_size]) (ba_one _ _) A5.out ?_
          try simp only [st9, st10, Act.put, List.getElem_toArray, List.getElem_cons_succ, List.getElem_cons_zero, List.setIfInBounds_toArray, List.set_cons_zero, List.set_cons_succ]
          have B5 := Aside0.mk (row_far A5.out (Nat.ne_of_lt (Nat.lt_succ_of_lt PG.out.2.1)) (ba 16 N))
          have B6 := Aside0.mk (row_far A6.out (Nat.ne_of_lt (Nat.lt_succ_of_lt PG.out.2.2)) (ba 16 N))
          have BP := Aside0.mk (row_far AP.out (Nat.ne_of_lt (Nat.lt_succ_self n)) (ba 16 N))
          have BQ := Aside0.mk (row_of AQ.out (ba 16 N))
          have BB := Aside0.mk (below_setRow AB.out (Nat.le_succ_of_le PG.out.1) (ba 16 N))
          refine H_store (i := 10) (o := st10) (by kernel_rfl) (by kernel_rfl) (by rfl) 23 _ _ rfl (n + 1) (ba 16 N) rfl rfl 23 _ AQ.out (HI.out _) (by rw [ba_size, ba_size]) (ba_one _ _) B5.out ?_
          try simp only [st9, st10, Act.put, List.getElem_toArray, List.getElem_cons_succ, List.getElem_cons_zero, List.setIfInBounds_toArray, List.set_cons_zero, List.set_cons_succ]
          refine wpAnyH_done (by kernel_rfl) ?_ _
          clear PP P5 P6 PB PG A5 A6 AP AQ AB
          generalize (W7.setRow (n) (ba 16 L)).setRow (n + 1) (ba 16 N) = W8 at *
          generalize n + 1 = n1 at *
          go_wp2
          go_loop [37] (fun i => ∃ m : Nat, m ≤ 16 ∧ i = .int .i64 (m : Int)) (fun i => 16 - (RowKit.intOf i).toNat)
          case atStart => exact ⟨0, by omega, rfl⟩
          case round =>
            obtain ⟨m, hm, rfl⟩ := hrel
            by_cases h16 : m < 16
            · have cL : ∀ j, j < 16 → W8.cell? ⟨n, j, none⟩ = some (.int .u8 ((L j).toNat : Int)) := fun j hj => (cell_of BP.out j).trans (ba_get 16 L j hj)
              have cN : ∀ j, j < 16 → W8.cell? ⟨n1, j, none⟩ = some (.int .u8 ((N j).toNat : Int)) := fun j hj => (cell_of BQ.out j).trans (ba_get 16 N j hj)
              have cS : ∀ j, j < 256 → W8.cell? ⟨g6, j, none⟩ = some (.int .u8 ((sT j).toNat : Int)) := fun j hj => (cell_of B6.out j).trans (ba_get 256 sT j hj)
              obtain rfl | rfl | rfl | rfl | ⟨j, rfl⟩ : m = 0 ∨ m = 1 ∨ m = 2 ∨ m = 3 ∨ ∃ j, m = j + 4 := by
                rcases Nat.lt_or_ge m 4 with h | h
                · omega
                · exact .inr (.inr (.inr (.inr ⟨m - 4, by omega⟩)))
              · have c0 := cL 0 (by omega)
                have cn := cN 0 (by omega)
                have c1 := cL 13 (by omega)
                have cs := cS (L 13).toNat (b8_lt _)
                have hv : N 0 = (L 0 ^^^ sT (L 13).toNat) ^^^ tn k := by rw [HX.out]; rfl
                rw [hv] at cn
                have hlt := b8_lt (L 13)
                clear cL cN cS hv hm h16
                generalize L 0 = y0 at *
                generalize L 13 = y1 at *
                generalize sT y1.toNat = s1 at *
                have x1 := xor_b8 y0 s1
                have x2 := xor_b8 (y0 ^^^ s1) (tn k)
                generalize (y0 ^^^ s1) ^^^ tn k = z2 at *
                generalize y0 ^^^ s1 = z1 at *
                go_wp2
                go_round
                case rel => exact ⟨0 + 1, by omega, by go_num⟩
                case measure =>
                  simp [RowKit.intOf]
                  try omega
              · have c0 := cL 1 (by omega)
                have cn := cN 1 (by omega)
                have c1 := cL 14 (by omega)
                have cs := cS (L 14).toNat (b8_lt _)
                have hv : N 1 = L 1 ^^^ sT (L 14).toNat := by rw [HX.out]; rfl
                rw [hv] at cn
                have hlt := b8_lt (L 14)
                clear cL cN cS hv hm h16
                generalize L 1 = y0 at *
                generalize L 14 = y1 at *
                generalize sT y1.toNat = s1 at *
                have x1 := xor_b8 y0 s1
                generalize y0 ^^^ s1 = z1 at *
                go_wp2
                go_round
                case rel => exact ⟨1 + 1, by omega, by go_num⟩
                case measure =>
                  simp [RowKit.intOf]
                  try omega
              · have c0 := cL 2 (by omega)
                have cn := cN 2 (by omega)
                have c1 := cL 15 (by omega)
                have cs := cS (L 15).toNat (b8_lt _)
                have hv : N 2 = L 2 ^^^ sT (L 15).toNat := by rw [HX.out]; rfl
                rw [hv] at cn
                have hlt := b8_lt (L 15)
                clear cL cN cS hv hm h16
                generalize L 2 = y0 at *
                generalize L 15 = y1 at *
                generalize sT y1.toNat = s1 at *
                have x1 := xor_b8 y0 s1
                generalize y0 ^^^ s1 = z1 at *
                go_wp2
                go_round
                case rel => exact ⟨2 + 1, by omega, by go_num⟩
                case measure =>
                  simp [RowKit.intOf]
                  try omega
              · have c0 := cL 3 (by omega)
                have cn := cN 3 (by omega)
                have c1 := cL 12 (by omega)
                have cs := cS (L 12).toNat (b8_lt _)
                have hv : N 3 = L 3 ^^^ sT (L 12).toNat := by rw [HX.out]; rfl
                rw [hv] at cn
                have hlt := b8_lt (L 12)
                clear cL cN cS hv hm h16
                generalize L 3 = y0 at *
                generalize L 12 = y1 at *
                generalize sT y1.toNat = s1 at *
                have x1 := xor_b8 y0 s1
                generalize y0 ^^^ s1 = z1 at *
                go_wp2
                go_round
                case rel => exact ⟨3 + 1, by omega, by go_num⟩
                case measure =>
                  simp [RowKit.intOf]
                  try omega
              · have c0 := cL (j + 4) (by omega)
                have c4 := cN j (by omega)
                have cn := cN (j + 4) (by omega)
                have hv : N (j + 4) = L (j + 4) ^^^ N j := by rw [HX.out]; rfl
                rw [hv] at cn
                have x1 := xor_b8 (L (j + 4)) (N j)
                have hm0 : (0 : Int) ≤ (j : Int) := by omega
                have hm1 : (j : Int) < 16 := by omega
                have hm2 : (j : Int) + 4 < 16 := by omega
                have hm3 : (0 : Int) ≤ (j : Int) + 4 := by omega
                have hmw : IntKind.i64.wrap (j : Int) = (j : Int) := wrap_sm _ (by omega) (by omega)
                have hmw4 : IntKind.i64.wrap ((j : Int) + 4) = (j : Int) + 4 := wrap_sm _ (by omega) (by omega)
                have hme : ((j : Int) + 4 - 4) = (j : Int) := by omega
                have HJ := Aside0.mk h16
                clear cL cN cS hv hm h16
                generalize L (j + 4) = y0 at *
                generalize N j = y1 at *
                generalize y0 ^^^ y1 = z1 at *
                go_wp2
                go_round
                case rel => exact ⟨j + 4 + 1, by have := HJ.out; omega, by go_num⟩
                case measure =>
                  have := HJ.out
                  simp [RowKit.intOf]
                  try omega
            · obtain rfl : m = 16 := by omega
              clear h16 hm
              go_wp2_with ((go_at_call 11; with_reducible refine (T2.out _).mono ?_); rintro e w9 ⟨rfl, rfl⟩)
              go_roundw
              case rel => exact ⟨k + 1, by have := HK.out; omega, rfl, by go_num, B5.out, B6.out, BB.out, lt_of B5.out⟩
              case measure =>
                simp [RowKit.intOf]
                try omega
        · go_simp
          refine hK _ _ ⟨old_of HE.out _, ?_⟩
          clear hK KK
          try simp only [st9, st10, Act.put, List.getElem_toArray, List.getElem_cons_succ, List.getElem_cons_zero, List.setIfInBounds_toArray, List.set_cons_zero, List.set_cons_succ]
          refine H_only (i := 7) (by kernel_rfl) rfl (by rfl) (fun KK hK => ?_)
          go_simp
          refine hK _ _ ⟨P5.out, ?_⟩
          clear hK KK
          try simp only [st9, st10, Act.put, List.getElem_toArray, List.getElem_cons_succ, List.getElem_cons_zero, List.setIfInBounds_toArray, List.set_cons_zero, List.set_cons_succ]
          clear HE H6 HB
          generalize ((wr.alloc (.cells (ba 16 fun _ => 0#8) 23)).alloc (.cells (ba 16 fun _ => 0#8) 23)).drew = W7 at *
          generalize wr.heap.size = n at *
          have A5 := Aside0.mk (row_far P5.out (Nat.ne_of_lt (Nat.lt_succ_of_lt PG.out.2.1)) (ba 16 L))
          have A6 := Aside0.mk (row_far P6.out (Nat.ne_of_lt (Nat.lt_succ_of_lt PG.out.2.2)) (ba 16 L))
          have AP := Aside0.mk (row_of PP.out.2 (ba 16 L))
          have AQ := Aside0.mk (row_far PP.out.1 (Nat.ne_of_lt (Nat.lt_succ_self n)) (ba 16 L))
          have AB := Aside0.mk (below_setRow PB.out (Nat.le_succ_of_le PG.out.1) (ba 16 L))
          refine H_store (i := 9) (o := st9) (by kernel_rfl) (by kernel_rfl) (by rfl) 23 _ _ rfl (n + 1) (ba 16 L) rfl rfl 23 _ PP.out.2 (HI.out _) (by rw [ba_size, ba_size]) (ba_one _ _) A5.out ?_
          try simp only [st9, st10, Act.put, List.getElem_toArray, List.getElem_cons_succ, List.getElem_cons_zero, List.setIfInBounds_toArray, List.set_cons_zero, List.set_cons_succ]
          have B5 := Aside0.mk (row_far A5.out (Nat.ne_of_lt PG.out.2.1) (ba 16 N))
          have B6 := Aside0.mk (row_far A6.out (Nat.ne_of_lt PG.out.2.2) (ba 16 N))
          have BP := Aside0.mk (row_far AP.out (Nat.succ_ne_self n) (ba 16 N))
          have BQ := Aside0.mk (row_of AQ.out (ba 16 N))
          have BB := Aside0.mk (below_setRow AB.out PG.out.1 (ba 16 N))
          refine H_store (i := 10) (o := st10) (by kernel_rfl) (by kernel_rfl) (by rfl) 23 _ _ rfl (n) (ba 16 N) rfl rfl 23 _ AQ.out (HI.out _) (by rw [ba_size, ba_size]) (ba_one _ _) B5.out ?_
          try simp only [st9, st10, Act.put, List.getElem_toArray, List.getElem_cons_succ, List.getElem_cons_zero, List.setIfInBounds_toArray, List.set_cons_zero, List.set_cons_succ]
          refine wpAnyH_done (by kernel_rfl) ?_ _
          clear PP P5 P6 PB PG A5 A6 AP AQ AB
          generalize (W7.setRow (n + 1) (ba 16 L)).setRow (n) (ba 16 N) = W8 at *
          generalize n + 1 = n1 at *
          go_wp2
          go_loop [37] (fun i => ∃ m : Nat, m ≤ 16 ∧ i = .int .i64 (m : Int)) (fun i => 16 - (RowKit.intOf i).toNat)
          case atStart => exact ⟨0, by omega, rfl⟩
          case round =>
            obtain ⟨m, hm, rfl⟩ := hrel
            by_cases h16 : m < 16
            · have cL : ∀ j, j < 16 → W8.cell? ⟨n1, j, none⟩ = some (.int .u8 ((L j).toNat : Int)) := fun j hj => (cell_of BP.out j).trans (ba_get 16 L j hj)
              have cN : ∀ j, j < 16 → W8.cell? ⟨n, j, none⟩ = some (.int .u8 ((N j).toNat : Int)) := fun j hj => (cell_of BQ.out j).trans (ba_get 16 N j hj)
              have cS : ∀ j, j < 256 → W8.cell? ⟨g6, j, none⟩ = some (.int .u8 ((sT j).toNat : Int)) := fun j hj => (cell_of B6.out j).trans (ba_get 256 sT j hj)
              obtain rfl | rfl | rfl | rfl | ⟨j, rfl⟩ : m = 0 ∨ m = 1 ∨ m = 2 ∨ m = 3 ∨ ∃ j, m = j + 4 := by
                rcases Nat.lt_or_ge m 4 with h | h
                · omega
                · exact .inr (.inr (.inr (.inr ⟨m - 4, by omega⟩)))
              · have c0 := cL 0 (by omega)
                have cn := cN 0 (by omega)
                have c1 := cL 13 (by omega)
                have cs := cS (L 13).toNat (b8_lt _)
                have hv : N 0 = (L 0 ^^^ sT (L 13).toNat) ^^^ tn k := by rw [HX.out]; rfl
                rw [hv] at cn
                have hlt := b8_lt (L 13)
                clear cL cN cS hv hm h16
                generalize L 0 = y0 at *
                generalize L 13 = y1 at *
                generalize sT y1.toNat = s1 at *
                have x1 := xor_b8 y0 s1
                have x2 := xor_b8 (y0 ^^^ s1) (tn k)
                generalize (y0 ^^^ s1) ^^^ tn k = z2 at *
                generalize y0 ^^^ s1 = z1 at *
                go_wp2
                go_round
                case rel => exact ⟨0 + 1, by omega, by go_num⟩
                case measure =>
                  simp [RowKit.intOf]
                  try omega
              · have c0 := cL 1 (by omega)
                have cn := cN 1 (by omega)
                have c1 := cL 14 (by omega)
                have cs := cS (L 14).toNat (b8_lt _)
                have hv : N 1 = L 1 ^^^ sT (L 14).toNat := by rw [HX.out]; rfl
                rw [hv] at cn
                have hlt := b8_lt (L 14)
                clear cL cN cS hv hm h16
                generalize L 1 = y0 at *
                generalize L 14 = y1 at *
                generalize sT y1.toNat = s1 at *
                have x1 := xor_b8 y0 s1
                generalize y0 ^^^ s1 = z1 at *
                go_wp2
                go_round
                case rel => exact ⟨1 + 1, by omega, by go_num⟩
                case measure =>
                  simp [RowKit.intOf]
                  try omega
              · have c0 := cL 2 (by omega)
                have cn := cN 2 (by omega)
                have c1 := cL 15 (by omega)
                have cs := cS (L 15).toNat (b8_lt _)
                have hv : N 2 = L 2 ^^^ sT (L 15).toNat := by rw [HX.out]; rfl
                rw [hv] at cn
                have hlt := b8_lt (L 15)
                clear cL cN cS hv hm h16
                generalize L 2 = y0 at *
                generalize L 15 = y1 at *
                generalize sT y1.toNat = s1 at *
                have x1 := xor_b8 y0 s1
                generalize y0 ^^^ s1 = z1 at *
                go_wp2
                go_round
                case rel => exact ⟨2 + 1, by omega, by go_num⟩
                case measure =>
                  simp [RowKit.intOf]
                  try omega
              · have c0 := cL 3 (by omega)
                have cn := cN 3 (by omega)
                have c1 := cL 12 (by omega)
                have cs := cS (L 12).toNat (b8_lt _)
                have hv : N 3 = L 3 ^^^ sT (L 12).toNat := by rw [HX.out]; rfl
                rw [hv] at cn
                have hlt := b8_lt (L 12)
                clear cL cN cS hv hm h16
                generalize L 3 = y0 at *
                generalize L 12 = y1 at *
                generalize sT y1.toNat = s1 at *
                have x1 := xor_b8 y0 s1
                generalize y0 ^^^ s1 = z1 at *
                go_wp2
                go_round
                case rel => exact ⟨3 + 1, by omega, by go_num⟩
                case measure =>
                  simp [RowKit.intOf]
                  try omega
              · have c0 := cL (j + 4) (by omega)
                have c4 := cN j (by omega)
                have cn := cN (j + 4) (by omega)
                have hv : N (j + 4) = L (j + 4) ^^^ N j := by rw [HX.out]; rfl
                rw [hv] at cn
                have x1 := xor_b8 (L (j + 4)) (N j)
                have hm0 : (0 : Int) ≤ (j : Int) := by omega
                have hm1 : (j : Int) < 16 := by omega
                have hm2 : (j : Int) + 4 < 16 := by omega
                have hm3 : (0 : Int) ≤ (j : Int) + 4 := by omega
                have hmw : IntKind.i64.wrap (j : Int) = (j : Int) := wrap_sm _ (by omega) (by omega)
                have hmw4 : IntKind.i64.wrap ((j : Int) + 4) = (j : Int) + 4 := wrap_sm _ (by omega) (by omega)
                have hme : ((j : Int) + 4 - 4) = (j : Int) := by omega
                have HJ := Aside0.mk h16
                clear cL cN cS hv hm h16
                generalize L (j + 4) = y0 at *
                generalize N j = y1 at *
                generalize y0 ^^^ y1 = z1 at *
                go_wp2
                go_round
                case rel => exact ⟨j + 4 + 1, by have := HJ.out; omega, by go_num⟩
                case measure =>
                  have := HJ.out
                  simp [RowKit.intOf]
                  try omega
            · obtain rfl : m = 16 := by omega
              clear h16 hm
              go_wp2_with ((go_at_call 11; with_reducible refine (T2.out _).mono ?_); rintro e w9 ⟨rfl, rfl⟩)
              go_roundw
              case rel => exact ⟨k + 1, by have := HK.out; omega, rfl, by go_num, B5.out, B6.out, BB.out, lt_of B5.out⟩
              case measure =>
                simp [RowKit.intOf]
                try omega
      · obtain rfl : k = 10 := by omega
        have r0 := HRG.out 0 (by omega)
        rw [HR0.out, Nat.zero_mul] at r0
        have R0 := Aside0.mk r0
        have HE : Aside0 (Bx wr.drew g5 (ba 176 WF) 25) := ⟨b5⟩
        have HB : Aside0 (Below w.heap.size w wr.drew) := ⟨hb.drew⟩
        clear r0 b5 b6 hb h10 hk hg5
        go_wp2
        refine H_start 12 rfl (fun w => Bx w g5 (ba 176 WF) 25) (by kernel_rfl) ?_
        refine H_take (i := 0) (v := .int .i64 0) rfl (by kernel_rfl) (by kernel_rfl) (by kernel_rfl) (fun _ _ _ h => h) (by rfl) (fun w' hS => rfl) HE.out ?_
        try simp only [Act.put, List.getElem_toArray, List.getElem_cons_succ, List.getElem_cons_zero, List.setIfInBounds_toArray, List.set_cons_zero, List.set_cons_succ]
        refine H_take (i := 1) (v := .bool true) rfl (by kernel_rfl) (by kernel_rfl) (by kernel_rfl) (fun _ _ _ h => h) (by rfl) (fun w' hS => by go_simp) HE.out ?_
        try simp only [Act.put, List.getElem_toArray, List.getElem_cons_succ, List.getElem_cons_zero, List.setIfInBounds_toArray, List.set_cons_zero, List.set_cons_succ]
        refine H_take (i := 2) (v := .bool true) rfl (by kernel_rfl) (by kernel_rfl) (by kernel_rfl) (fun _ _ _ h => h) (by rfl) (fun w' hS => by go_simp) HE.out ?_
        try simp only [Act.put, List.getElem_toArray, List.getElem_cons_succ, List.getElem_cons_zero, List.setIfInBounds_toArray, List.set_cons_zero, List.set_cons_succ]
        refine H_take (i := 3) (v := .pointer (some ⟨g5, 0, none⟩)) rfl (by kernel_rfl) (by kernel_rfl) (by kernel_rfl) (fun _ _ _ h => h) (by rfl) (fun w' hS => by go_simp) HE.out ?_
        try simp only [Act.put, List.getElem_toArray, List.getElem_cons_succ, List.getElem_cons_zero, List.setIfInBounds_toArray, List.set_cons_zero, List.set_cons_succ]
        refine H_take (i := 4) (v := .agg (ba 16 (sb d))) rfl (by kernel_rfl) (by kernel_rfl) (by kernel_rfl) (fun _ _ _ h => h) (by rfl) (fun w' hS => exec_load 23 _ rfl g5 0 rfl (ba 16 (sb d)) _ (R0.out _ _ hS) HU3.out rfl (HI.out _)) HE.out ?_
        try simp only [Act.put, List.getElem_toArray, List.getElem_cons_succ, List.getElem_cons_zero, List.setIfInBounds_toArray, List.set_cons_zero, List.set_cons_succ]
        refine H_take (i := 5) (v := .string d) rfl (by kernel_rfl) (by kernel_rfl) (by kernel_rfl) (fun _ _ _ h => h) (by rfl) (fun w' hS => by go_simp) HE.out ?_
        try simp only [Act.put, List.getElem_toArray, List.getElem_cons_succ, List.getElem_cons_zero, List.setIfInBounds_toArray, List.set_cons_zero, List.set_cons_succ]
        refine H_only (i := 6) (by kernel_rfl) rfl (by rfl) (fun KK hK => ?_)
        obtain ⟨c, w6, hcv, hrg, hb, hlt⟩ := bytes_run d HD.out wr.drew
        go_simp
        have HE6 : Aside0 (Bx w6 g5 (ba 176 WF) 25) := ⟨below_of HE.out hb⟩
        have HB6 := Aside0.mk (HB.out.trans (hb.mono HB.out.size))
        refine hK _ _ ⟨HE6.out, ?_⟩
        have RG := Aside0.mk hrg
        clear hb hK KK hcv hrg hlt
        try simp only [Act.put, List.getElem_toArray, List.getElem_cons_succ, List.getElem_cons_zero, List.setIfInBounds_toArray, List.set_cons_zero, List.set_cons_succ]
        refine H_take (i := 7) (v := .pointer (some ⟨wr.heap.size, 0, none⟩)) rfl (by kernel_rfl) (by kernel_rfl) (by kernel_rfl) (fun _ _ _ h => h) (by rfl) (fun w' hS => exec_arr _ rfl _ _ rfl w') HE6.out ?_
        try simp only [Act.put, List.getElem_toArray, List.getElem_cons_succ, List.getElem_cons_zero, List.setIfInBounds_toArray, List.set_cons_zero, List.set_cons_succ]
        refine H_weak (S' := fun w => Bx w g5 (ba 176 WF) 25 ∧ w.rangeAt wr.heap.size 0 (ba 16 (sb d)).toList) (fun _ h => h.1) _ _ _ _ ?_
        refine H_take (i := 8) (v := .agg (ba 16 (sb d))) rfl (by kernel_rfl) (by kernel_rfl) (by kernel_rfl) (fun _ _ _ h => h) (by rfl) (fun w' hS => exec_load 23 _ rfl wr.heap.size 0 rfl (ba 16 (sb d)) _ hS.2 HU3.out rfl (HI.out _)) ⟨HE6.out, RG.out⟩ ?_
        try simp only [Act.put, List.getElem_toArray, List.getElem_cons_succ, List.getElem_cons_zero, List.setIfInBounds_toArray, List.set_cons_zero, List.set_cons_succ]
        refine H_take (i := 9) (v := .bool true) rfl (by kernel_rfl) (by kernel_rfl) (by kernel_rfl) (fun _ _ _ h => h) (by rfl) (fun w' hS => (exec_eq23 _ _ _ rfl (sb d) (sb d) rfl rfl w').trans (by rw [eq16_self])) ⟨HE6.out, RG.out⟩ ?_
        try simp only [Act.put, List.getElem_toArray, List.getElem_cons_succ, List.getElem_cons_zero, List.setIfInBounds_toArray, List.set_cons_zero, List.set_cons_succ]
        refine H_take (i := 10) (v := .bool true) rfl (by kernel_rfl) (by kernel_rfl) (by kernel_rfl) (fun _ _ _ h => h) (by rfl) (fun w' hS => by go_simp) ⟨HE6.out, RG.out⟩ ?_
        try simp only [Act.put, List.getElem_toArray, List.getElem_cons_succ, List.getElem_cons_zero, List.setIfInBounds_toArray, List.set_cons_zero, List.set_cons_succ]
        refine H_take (i := 11) (v := .bool true) rfl (by kernel_rfl) (by kernel_rfl) (by kernel_rfl) (fun _ _ _ h => h) (by rfl) (fun w' hS => by go_simp) ⟨HE6.out, RG.out⟩ ?_
        try simp only [Act.put, List.getElem_toArray, List.getElem_cons_succ, List.getElem_cons_zero, List.setIfInBounds_toArray, List.set_cons_zero, List.set_cons_succ]
        refine wpAnyH_done (by kernel_rfl) ?_ _
        go_wp2
        go_ret
        exact ⟨rfl, HB6.out⟩
  · have hl : ((d.size : Int) == 16) = false := beq_eq_false_iff_ne.2 (by omega)
    go_enter Try.func4, Try.ntmps4
    go_wp2_with ((go_at_call 6; with_reducible refine (HAW.out _).mono ?_); rintro e w1 ⟨rfl, hb⟩; have CB := Aside0.mk hb; clear hb)
    go_ret
    exact ⟨rfl, CB.out⟩
end Go.Proofs.Ytiblkbkdfebfbaa.Aes
