/- New: its contract. No conditions. -/
import Derived.Test.YtiblkbkdfebfbaaMySched
import Derived.Test.YtiblkbkdfebfbaaMyBuilt
import Derived.Test.YtiblkbkdfebfbaaMySet
import Derived.Test.YtiblkbkdfebfbaaMyMix
import Derived.Laws.ResultCell
import Derived.Deep.WholeRow
import Derived.Deep.RegionHeld3
namespace Go.Proofs.Ytiblkbkdfebfbaa.Aes
open Go.RowKit Go.Proofs.Ytiblkbkdfebfbaa.Own

theorem build28z (w : World) : (Instr.build 28 #[]).run Try.prog w = .ok (.agg (kc false (fun _ => 0#8) fun _ => 0#8)) w := run_build w 28 #[] _ (by rw [← kc_zero]; exact built28z)
theorem build28 (sf : Nat → B8) : Try.prog.built 28 [(0, .bool true), (2, .agg (ba 256 sf))] = some (kc true (fun _ => 0#8) sf) := (built28 sf).trans (by rw [ba_zero]; rfl)
theorem wpList_build_to {P : Program} {ops : Array Oper} {rest : List Oper} {o : Oper} {a : Act} {w : World} {Q : Exit → Act → World → Prop} (hg : o.guard = none) (t : TypeId) (parts : Array (Nat × Operand)) (ho : o.op = .build t parts) (cells : Array Value)
    (hf : P.built t (parts.map fun (i, x) => (i, a.eval x)).toList = some cells) (h : wpList P ops Q rest (a.put o.dst (.agg cells)) w) : wpList P ops Q (o :: rest) a w :=
  wpList_build hg t parts ho (by rw [hf]; rfl) (by rw [hf]; exact h)

theorem three_get {α : Type} (K F : List α) (h : 17 ≤ K.length) (hF : F.length = 16) (j : Nat) : (K.take 1 ++ F ++ K.drop (1 + F.length))[j]? = if j = 0 then K[0]? else if j < 17 then F[j - 1]? else K[j]? := by
  have ht : (K.take 1).length = 1 := by rw [List.length_take]; omega
  rw [hF]
  by_cases j0 : j = 0
  · subst j0
    rw [if_pos rfl, List.getElem?_append_left (by rw [List.length_append, ht]; omega), List.getElem?_append_left (by omega), List.getElem?_take, if_pos (by omega)]
  · rw [if_neg j0]
    by_cases j1 : j < 17
    · rw [if_pos j1, List.getElem?_append_left (by rw [List.length_append, ht, hF]; omega), List.getElem?_append_right (by omega), ht]
    · rw [if_neg j1, List.getElem?_append_right (by rw [List.length_append, ht, hF]; omega), List.getElem?_drop, List.length_append, ht, hF]
      rw [show 1 + 16 + (j - (1 + 16)) = j by omega]

theorem kc_copy (b : Bool) (wf sf f : Nat → B8) : ((kc b wf sf).toList.take 1 ++ (ba 16 f).toList ++ (kc b wf sf).toList.drop (1 + (ba 16 f).toList.length)).toArray = kc b (fun j => if j < 16 then f j else wf j) sf := by
  have hk := kc_size b wf sf
  have hk' := kc_size b (fun j => if j < 16 then f j else wf j) sf
  have h0 := kc_0 b wf sf
  have h0' := kc_0 b (fun j => if j < 16 then f j else wf j) sf
  have hw := kc_w b wf sf
  have hw' := kc_w b (fun j => if j < 16 then f j else wf j) sf
  have hs := kc_s b wf sf
  have hs' := kc_s b (fun j => if j < 16 then f j else wf j) sf
  have hb := ba_get 16 f
  have hbs := ba_size 16 f
  generalize kc b wf sf = K at *
  generalize kc b (fun j => if j < 16 then f j else wf j) sf = K' at *
  generalize ba 16 f = F at *
  apply Array.ext_getElem?
  intro j
  rw [List.getElem?_toArray, three_get K.toList F.toList (by rw [Array.length_toList]; omega) (by rw [Array.length_toList]; exact hbs) j]
  rw [Array.getElem?_toList, Array.getElem?_toList, Array.getElem?_toList]
  by_cases j0 : j = 0
  · subst j0
    rw [if_pos rfl, h0, h0']
  · rw [if_neg j0]
    by_cases j1 : j < 17
    · obtain ⟨m, rfl⟩ : ∃ m, j = 1 + m := ⟨j - 1, by omega⟩
      rw [if_pos j1, show 1 + m - 1 = m by omega, hb m (by omega), hw' m (by omega), if_pos (by omega)]
    · rw [if_neg j1]
      by_cases j2 : j < 177
      · obtain ⟨m, rfl⟩ : ∃ m, j = 1 + m := ⟨j - 1, by omega⟩
        rw [hw m (by omega), hw' m (by omega), if_neg (by omega)]
      · by_cases j3 : j < 433
        · obtain ⟨m, rfl⟩ : ∃ m, j = 177 + m := ⟨j - 177, by omega⟩
          rw [hs m (by omega), hs' m (by omega)]
        · rw [Array.getElem?_eq_none (by omega), Array.getElem?_eq_none (by omega)]

/-- The copy of the key into the first row. -/
theorem copy_key (d : ByteArray) (hd : d.size = 16) (sf : Nat → B8) (g : Nat) (w : World) (hg : Bx w g (kc true (pw sf (sb d) 0) sf) 28) :
    (Builtin.copy_ #[34, 9] 3 #[.slice (some ⟨g, 1, none⟩) 16 16, .string d]).run Try.prog w = .ok (goInt 16) (w.setRow g (kc true (pw sf (sb d) 16) sf)) := by
  rw [run_copy_str w 34 9 3 5 g 1 16 16 d (kc true (pw sf (sb d) 0) sf) 28 (ba 16 (sb d)).toList Try.underlying34 hg hd (by kernel_rfl) (sb_cells d hd) (by simp [ba_size, kc_size]) (fun v hv => (Array.all_eq_true_iff_forall_mem.1 (ba_one 16 (sb d))) v (by simpa using hv)), kc_copy]
  rw [kc_congr true _ (pw sf (sb d) 16) sf (fun i _ => by
    unfold pw
    by_cases h : i < 16
    · rw [if_pos h, if_pos h]
      unfold wr0
      rw [show i / 16 = 0 by omega, show i % 16 = i by omega]
      rfl
    · rw [if_neg h, if_neg h, if_neg (by omega)])]
  rfl

theorem copy_key' (d : ByteArray) (hd : d.size = 16) (sf : Nat → B8) (K0 K1 : Array Value) (h0 : kc true (pw sf (sb d) 0) sf = K0) (h1 : kc true (pw sf (sb d) 16) sf = K1) (g : Nat) (w : World) (hg : Bx w g K0 28) :
    (Builtin.copy_ #[34, 9] 3 #[.slice (some ⟨g, 1, none⟩) 16 16, .string d]).run Try.prog w = .ok (goInt 16) (w.setRow g K1) := by
  subst h0
  subst h1
  exact copy_key d hd sf g w hg

theorem results_row_tmp {P : Program} {fn : Func} {p u : Tmp} {ty : TypeId} (h : fn.results = #[.cell p ty, .tmp u]) (tmps : Array Value) (w : World) (g : Nat) (t : TypeId) (cs : Array Value) (fr : Nat × Nat) (d : TypeDesc)
    (hp : tmps.getD p undef = .pointer (some ⟨g, 0, none⟩)) (hg : w.heap[g]? = some (.cells cs t fr))
    (hu : P.underlying ty = some d) (hd : (match d with | .struct _ | .array _ _ => true | _ => false) = true) (hi : (P.info? ty).map (·.size) = some cs.size) :
    (results fn tmps).run P w = .ok (.tuple #[.agg cs, tmps.getD u undef]) w := by
  rw [results_cell_tmp h, hp]
  simp [asAddr, run_loadVar_row w g t ty cs fr d hg hu hd hi]

set_option maxRecDepth 30000 in
set_option maxHeartbeats 2000000 in
theorem new_other (d : ByteArray) (hd : d.size ≠ 16) (w : World) : Calls Try.prog 7 #[.string d] w fun e w' => e = .returned (.tuple #[.agg (kc false (fun _ => 0#8) fun _ => 0#8), .int .i64 4]) ∧ Below w.heap.size w w' := by
  have hz := zero28k
  have hb := build28z
  have hs := info28 false (fun _ => 0#8) (fun _ => 0#8)
  have h1 := kc_one false (fun _ => 0#8) (fun _ => 0#8)
  generalize kc false (fun _ => 0#8) (fun _ => 0#8) = Z at *
  have hq : ((d.size : Int) == 16) = false := by
    refine beq_eq_false_iff_ne.2 (fun h => hd ?_)
    omega
  have HS := Aside0.mk hs
  have H1 := Aside0.mk h1
  have B0 := Aside0.mk (new_of w Z 28)
  have HU := Aside0.mk Try.underlying28
  have HB : Aside0 (Below w.heap.size w (w.alloc (.cells Z 28))) := ⟨(Below.refl _ _).alloc (Nat.le_refl _) _⟩
  clear hs h1
  go_enter Try.func7, Try.ntmps7
  go_wp2_with (first
    | (refine wpList_store_row rfl 28 _ _ rfl w.heap.size Z rfl rfl 28 Z B0.out HS.out rfl H1.out ?_))
  refine bodyPost_ret (results_row_tmp rfl _ _ w.heap.size 28 Z (0, 0) _ rfl (row_of B0.out _) HU.out rfl HS.out) rfl ⟨rfl, ?_⟩
  exact below_setRow HB.out (Nat.le_refl _) _

def NewRel (sf f0 : Nat → B8) (Z : Array Value) (w0 : World) (p g : Nat) (t r : Value) (wr : World) : Prop :=
  ∃ k : Nat, k ≤ 10 ∧ t = .int .u8 ((tn k).toNat : Int) ∧ r = .int .i64 ((k + 1 : Nat) : Int) ∧ Bx wr g (kc true (pw sf f0 (16 * (k + 1))) sf) 28 ∧ Bx wr p Z 28 ∧ Below w0.heap.size w0 wr ∧ w0.heap.size ≤ p ∧ p < g

def NowRel (sf f0 : Nat → B8) (Z : Array Value) (w0 : World) (p g n k : Nat) (i : Value) (wr : World) : Prop :=
  ∃ j : Nat, j ≤ 16 ∧ i = .int .i64 (j : Int) ∧ Bx wr g (kc true (pw sf f0 (16 * (k + 1) + j)) sf) 28 ∧ Bx wr n (ba 16 (rows sf f0 k)) 23 ∧ Bx wr p Z 28 ∧ Below w0.heap.size w0 wr ∧ w0.heap.size ≤ p ∧ p < g ∧ g < n

theorem run_cellsFrom_mid (w : World) (b o n : Nat) (cs : Array Value) (hn : cs.size = n) (hc : w.rangeAt b o cs.toList) : (loadCellsFrom ⟨b, o, none⟩ 0 n #[]).run Try.prog w = .ok cs w := by
  subst hn
  have := run_loadCells_list (P := Try.prog) w ⟨b, o, none⟩ cs.toList (fun j v hv => by rw [Addr.add_mid]; exact hc j v hv)
  simpa [loadCells] using this
theorem run_storeCells_row (w : World) (g : Nat) (t ty : TypeId) (old cells : Array Value) (hg : w.heap[g]? = some (.cells old t (0, 0))) (hi : (Try.prog.info? ty).map (·.size) = some cells.size) (ho : old.size = cells.size) (h1 : cells.all (·.oneCell') = true) :
    (storeCells ⟨g, 0, none⟩ cells.toList 0).run Try.prog w = .ok () (w.setRow g cells) := by
  have := run_storeVar_row (P := Try.prog) w g t ty old cells hg hi ho h1
  cases hq : Try.prog.info? ty with
  | none => simp [hq] at hi
  | some i =>
    have hs : cells.size = i.size := by simp [hq] at hi; omega
    simpa [storeVar, sizeOf, typeInfo, hq, Value.cells, hs] using this

theorem range_row (sf f0 : Nat → B8) (k n : Nat) (h : 16 * (k + 1) ≤ n) (hn : n ≤ 176) (g : Nat) (w : World) (hg : Bx w g (kc true (pw sf f0 n) sf) 28) : w.rangeAt g (1 + 16 * k) (ba 16 (rows sf f0 k)).toList := by
  intro j v hv
  have hv' : (ba 16 (rows sf f0 k))[j]? = some v := by rw [← hv]; exact Array.getElem?_toList.symm
  have hj : j < 16 := by
    rcases Nat.lt_or_ge j 16 with h | h
    · exact h
    · rw [Array.getElem?_eq_none (by rw [ba_size]; exact h)] at hv'
      cases hv'
  rw [cell_of hg, Nat.add_assoc, kc_w _ _ _ _ (by omega), ← hv', ba_get 16 _ j hj]
  unfold pw
  rw [if_pos (by omega)]
  unfold wr0
  rw [show (16 * k + j) / 16 = k by omega, show (16 * k + j) % 16 = j by omega]

set_option maxRecDepth 30000 in
set_option maxHeartbeats 2000000 in
theorem new_16 (d : ByteArray) (hd : d.size = 16) (w : World) : Calls Try.prog 7 #[.string d] w fun e w' => e = .returned (.tuple #[.agg (kc true (wr0 (outF 255) (sb d)) (outF 255)), .int .i64 0]) ∧ Below w.heap.size w w' := by
  have HX := Aside0.mk box_any
  generalize outF 255 = sf at *
  have hz := zero28k
  have hb := build28 sf
  have hs := info28 true (fun _ => 0#8) sf
  have h1 := kc_one true (fun _ => 0#8) sf
  have hk : kc true (fun _ => 0#8) sf = kc true (pw sf (sb d) 0) sf := kc_congr _ _ _ _ (fun i _ => by simp [pw])
  rw [hk] at hs h1
  rw [hk] at hb
  have hzs := kc_size false (fun _ => 0#8) (fun _ => 0#8)
  have hks := kc_size true (pw sf (sb d) 0) sf
  generalize kc false (fun _ => 0#8) (fun _ => 0#8) = Z at *
  obtain ⟨K0, hK0⟩ : ∃ K0, kc true (pw sf (sb d) 0) sf = K0 := ⟨_, rfl⟩
  rw [hK0] at hs h1 hb hks
  obtain ⟨S, hS⟩ : ∃ S, ba 256 sf = S := ⟨_, rfl⟩
  rw [hS] at hb
  have HXS : Aside0 (∀ w, Calls Try.prog 10 #[] w fun e w' => e = .returned (.agg S) ∧ Below w.heap.size w w') := ⟨hS ▸ HX.out⟩
  have HS := Aside0.mk hs
  have H1 := Aside0.mk h1
  have HBT := Aside0.mk hb
  have HZS := Aside0.mk hzs
  have HZ := Aside0.mk (hzs.trans hks.symm)
  have HKS := Aside0.mk hks
  have HK0 := Aside0.mk hK0
  have hq : ((d.size : Int) == 16) = true := by rw [hd]; rfl
  have HU := Aside0.mk Try.underlying28
  have B0 := Aside0.mk (new_of w Z 28)
  have HB : Aside0 (Below w.heap.size w (w.alloc (.cells Z 28))) := ⟨(Below.refl _ _).alloc (Nat.le_refl _) _⟩
  clear hs h1 hzs hks hK0 hS HX hk hb
  go_enter Try.func7, Try.ntmps7
  go_wp2_with fail
  go_at_call 10
  refine (HXS.out _).mono ?_
  rintro e w' ⟨rfl, hb'⟩
  rename_i hK
  refine hK _ _ ?_
  clear hK
  refine wpList_build_to rfl 28 _ rfl K0 ?_ ?_
  · simpa [Act.eval] using HBT.out
  obtain ⟨K1, hK1⟩ : ∃ K1, kc true (pw sf (sb d) 16) sf = K1 := ⟨_, rfl⟩
  have hcopy := copy_key' d hd sf K0 K1 HK0.out hK1 w'.heap.size ((w'.alloc (.cells Z 28)).setRow w'.heap.size K0) (row_of (new_of w' Z 28) K0)
  have HK1 := Aside0.mk hK1
  have HB' := Aside0.mk hb'
  clear hK1 hb'
  go_wp2_with (first
    | (refine wpList_store_row rfl 28 _ _ rfl _ K0 rfl rfl 28 Z (new_of _ Z 28) HS.out HZ.out H1.out ?_))
  have S0 : NewRel sf (sb d) Z w w.heap.size w'.heap.size (.int .u8 1) (.int .i64 1) (((w'.alloc (.cells Z 28)).setRow w'.heap.size K0).setRow w'.heap.size K1) := by
    have hlt : w.heap.size < w'.heap.size := Nat.lt_of_lt_of_le (by simp) HB'.out.size
    refine ⟨0, by omega, rfl, rfl, ?_, ?_, ?_, Nat.le_refl _, hlt⟩
    · show Bx _ _ (kc true (pw sf (sb d) 16) sf) 28
      rw [HK1.out]
      exact row_of (row_of (new_of w' Z 28) K0) K1
    · exact row_far (row_far (old_of (below_of B0.out HB'.out) _) (Nat.ne_of_lt hlt) _) (Nat.ne_of_lt hlt) _
    · exact below_setRow (below_setRow ((HB.out.trans (HB'.out.mono HB.out.size)).alloc (Nat.le_of_lt hlt) _) (Nat.le_of_lt hlt) _) (Nat.le_of_lt hlt) _
  clear hcopy HK0 HK1 HB B0 HB' HBT HXS HZ HKS HS H1
  generalize ((w'.alloc (.cells Z 28)).setRow w'.heap.size K0).setRow w'.heap.size K1 = W1 at *
  obtain ⟨G, hG⟩ : ∃ G, w'.heap.size = G := ⟨_, rfl⟩
  rw [hG]
  rw [hG] at S0
  clear hG
  go_loopw [5, 6] (fun t r wr => NewRel sf (sb d) Z w w.heap.size G t r wr) (fun _ r _ => 11 - (RowKit.intOf r).toNat)
  case atStart => exact S0
  case round =>
    obtain ⟨k, hk, rfl, rfl, bg, bp, hb, hp, hpg⟩ := hrel
    clear S0
    by_cases h10 : k < 10
    · have hk10 : ((k + 1 : Nat) : Int) ≤ 10 := by omega
      have RG := range_row sf (sb d) k (16 * (k + 1)) (Nat.le_refl _) (by omega) G wr bg
      have BG := Aside0.mk bg
      have BP := Aside0.mk bp
      have HB := Aside0.mk hb
      have HP := Aside0.mk hp
      have HPG := Aside0.mk hpg
      clear bg bp hb hp hpg hk
      have hz23 : ∀ w, (zeroValue 23).run Try.prog w = .ok (.agg (ba 16 fun _ => 0#8)) w := fun w => by rw [zero23, ba_zero]
      have i23 : (Try.prog.info? 23).map (·.size) = some (ba 16 (rows sf (sb d) k)).toList.length := by rw [Array.length_toList, ba_size]; kernel_rfl
      rw [Nat.mul_comm 16 k] at RG
      have h1L : ∀ v ∈ (ba 16 (rows sf (sb d) k)).toList, v.oneCell' = true := fun v hv => (Array.all_eq_true_iff_forall_mem.1 (ba_one 16 (rows sf (sb d) k))) v (by simpa using hv)
      have hLl : (ba 16 (rows sf (sb d) k)).toList.length = 16 := by rw [Array.length_toList, ba_size]
      obtain ⟨L, hL⟩ : ∃ R, (ba 16 (rows sf (sb d) k)).toList = R := ⟨_, rfl⟩
      rw [hL] at RG i23 h1L hLl
      have HL := Aside0.mk hL
      have TH : ∀ (Z : Array Value), Z.size = 16 → (wr.alloc (.cells Z 23)).there wr.heap.size 0 16 := fun Z hZ j hj => by
        have b := new_of wr Z 23
        refine ⟨?_, ?_⟩
        · rw [cell_of b, Array.getElem?_eq_getElem (by omega)]
          rfl
        · exact frozen_of b _
      have TH1 := TH (ba 16 fun _ => 0#8) (ba_size _ _)
      obtain ⟨Z16, hZ16⟩ : ∃ R, (ba 16 fun _ => 0#8) = R := ⟨_, rfl⟩
      rw [hZ16] at TH1
      simp only [hZ16] at hz23
      have hu23 := Try.underlying23
      have hGw : G < wr.heap.size := lt_of BG.out
      have HZ16 := Aside0.mk hZ16
      clear TH hL hZ16
      have hwk : IntKind.i64.wrap (k : Int) = (k : Int) := by rw [IntKind.wrap_i64]; omega
      have hwk1 : IntKind.i64.wrap ((k : Int) + 1) = (k : Int) + 1 := by rw [IntKind.wrap_i64]; omega
      have hk0 : (0 : Int) ≤ (k : Int) := by omega
      have hk01 : (0 : Int) ≤ (k : Int) + 1 := by omega
      have hk11 : (k : Int) < 11 := by omega
      have hk111 : (k : Int) + 1 < 11 := by omega
      go_wp2
      go_region_held3 (fun w' => w'.rangeAt G (1 + k * 16) L) (go_keep_ranges) (fail)
      have eL : L.toArray = ba 16 (rows sf (sb d) k) := by rw [← HL.out, Array.toArray_toList]
      obtain ⟨N, hN⟩ : ∃ N, wr.heap.size = N := ⟨_, rfl⟩
      have BL : Bx ((wr.alloc (.cells Z16 23)).drew.setCells wr.heap.size 0 L) N (ba 16 (rows sf (sb d) k)) 23 := by
        rw [← eL, ← hN]
        exact setCells_row _ 23 L _ Z16 (new_of wr Z16 23) (by rw [hLl, ← HZ16.out, ba_size])
      have BG2 : Bx ((wr.alloc (.cells Z16 23)).drew.setCells wr.heap.size 0 L) G (kc true (pw sf (sb d) (16 * (k + 1))) sf) 28 := (setCells_far _ L 0 _ G (Nat.ne_of_lt hGw)).trans (old_of BG.out _)
      have BP2 : Bx ((wr.alloc (.cells Z16 23)).drew.setCells wr.heap.size 0 L) w.heap.size Z 28 := (setCells_far _ L 0 _ w.heap.size (Nat.ne_of_lt (Nat.lt_trans HPG.out hGw))).trans (old_of BP.out _)
      have HB2 : Below w.heap.size w ((wr.alloc (.cells Z16 23)).drew.setCells wr.heap.size 0 L) := setCells_below _ _ _ HB.out.size L 0 _ ((HB.out.alloc HB.out.size _).drew)
      have S1 : NowRel sf (sb d) Z w w.heap.size G N k (.int .i64 0) ((wr.alloc (.cells Z16 23)).drew.setCells wr.heap.size 0 L) := ⟨0, by omega, rfl, BG2, BL, BP2, HB2, Nat.le_refl _, HPG.out, hN ▸ hGw⟩
      clear BL BG2 BP2 HB2 BG BP HB HP eL HL RG TH1 i23 h1L hLl
      rw [hN]
      rw [hN] at S1
      generalize (wr.alloc (.cells Z16 23)).drew.setCells N 0 L = W3 at *
      clear hN hGw hz23 hu23 HZ16
      go_wp2
      go_loopw [33] (fun i wr => NowRel sf (sb d) Z w w.heap.size G N k i wr) (fun i _ => 16 - (RowKit.intOf i).toNat)
      case atStart => exact S1
      case round =>
        obtain ⟨j, hj, rfl, bg, bl, bp, hb, hp, hpg, hgn⟩ := hrel
        clear S1
        by_cases h16 : j < 16
        · have hj16 : (j : Int) < 16 := by omega
          have hst : (kc true (pw sf (sb d) (16 * (k + 1) + j)) sf).setIfInBounds (1 + (k + 1) * 16 + j) (.int .u8 ((rows sf (sb d) (k + 1) j).toNat : Int)) = kc true (pw sf (sb d) (16 * (k + 1) + (j + 1))) sf := by
            rw [show 1 + (k + 1) * 16 + j = 1 + (16 * (k + 1) + j) by omega, show 16 * (k + 1) + (j + 1) = 16 * (k + 1) + j + 1 by omega, kc_setw _ _ _ _ (by omega), ← pw_step]
            unfold wr0
            rw [show (16 * (k + 1) + j) / 16 = k + 1 by omega, show (16 * (k + 1) + j) % 16 = j by omega]
          have cL : ∀ i, i < 16 → wr.cell? ⟨N, i, none⟩ = some (.int .u8 ((rows sf (sb d) k i).toNat : Int)) := fun i hi => (cell_of bl i).trans (ba_get 16 _ i hi)
          have cS : ∀ i, i < 256 → wr.cell? ⟨G, 177 + i, none⟩ = some (.int .u8 ((sf i).toNat : Int)) := fun i hi => (cell_of bg _).trans (kc_s _ _ _ i hi)
          have cW : wr.cell? ⟨G, 1 + (k + 1) * 16 + j, none⟩ = some (.int .u8 ((pw sf (sb d) (16 * (k + 1) + j) (16 * (k + 1) + j)).toNat : Int)) := by
            rw [show 1 + (k + 1) * 16 + j = 1 + (16 * (k + 1) + j) by omega]
            exact (cell_of bg _).trans (kc_w _ _ _ _ (by omega))
          have fG := frozen_of bg
          have fN := frozen_of bl
          obtain rfl | rfl | rfl | rfl | ⟨m, rfl⟩ : j = 0 ∨ j = 1 ∨ j = 2 ∨ j = 3 ∨ ∃ m, j = m + 4 := by
            rcases Nat.lt_or_ge j 4 with h | h
            · omega
            · exact .inr (.inr (.inr (.inr ⟨j - 4, by omega⟩)))
          · have c0 := cL 0 (by omega)
            have c13 := cL 13 (by omega)
            have cs := cS (rows sf (sb d) k 13).toNat (b8_lt _)
            have x1 := xor_b8 (rows sf (sb d) k 0) (sf (rows sf (sb d) k 13).toNat)
            have x2 := xor_b8 (rows sf (sb d) k 0 ^^^ sf (rows sf (sb d) k 13).toNat) (tn k)
            have hv : rows sf (sb d) (k + 1) 0 = (rows sf (sb d) k 0 ^^^ sf (rows sf (sb d) k 13).toNat) ^^^ tn k := rfl
            have HN := put_of bg _ _ hst
            rw [hv] at HN
            have cW0 : wr.cell? ⟨G, 1 + (k + 1) * 16, none⟩ = _ := cW
            have fG0 := fG (1 + (k + 1) * 16)
            have hlt := b8_lt (rows sf (sb d) k 13)
            have HBL := Aside0.mk bl
            have HBP := Aside0.mk bp
            have HHB := Aside0.mk hb
            have HHP := Aside0.mk (And.intro hp (And.intro hpg hgn))
            clear cL cS hst cW hv bl bp hb hp hpg hgn bg fG
            generalize rows sf (sb d) k 0 = y0 at *
            generalize rows sf (sb d) k 13 = y13 at *
            generalize sf y13.toNat = s13 at *
            generalize hT : tn k = T at *
            clear hT
            generalize hq1 : y0 ^^^ s13 = q1 at *
            generalize hq2 : q1 ^^^ T = q2 at *
            have HHN := Aside0.mk HN
            clear HN hq1 hq2
            go_wp2
            go_region
            go_wp2
            go_roundw
            case rel => exact ⟨0 + 1, by omega, by go_num, HHN.out, far_of HBL.out (Nat.ne_of_gt HHP.out.2.2) _, far_of HBP.out (Nat.ne_of_lt HHP.out.2.1) _, (HHB.out.setCell (Nat.le_of_lt HHP.out.2.1) _).drew, HHP.out⟩
            case measure =>
              simp [RowKit.intOf]
              try omega
          · have c0 := cL 1 (by omega)
            have c13 := cL 14 (by omega)
            have cs := cS (rows sf (sb d) k 14).toNat (b8_lt _)
            have x1 := xor_b8 (rows sf (sb d) k 1) (sf (rows sf (sb d) k 14).toNat)
            have hv : rows sf (sb d) (k + 1) 1 = (rows sf (sb d) k 1 ^^^ sf (rows sf (sb d) k 14).toNat) := rfl
            have HN := put_of bg _ _ hst
            rw [hv] at HN
            have cW0 : wr.cell? ⟨G, 1 + (k + 1) * 16 + 1, none⟩ = _ := cW
            have fG0 := fG (1 + (k + 1) * 16 + 1)
            have hlt := b8_lt (rows sf (sb d) k 14)
            have HBL := Aside0.mk bl
            have HBP := Aside0.mk bp
            have HHB := Aside0.mk hb
            have HHP := Aside0.mk (And.intro hp (And.intro hpg hgn))
            clear cL cS hst cW hv bl bp hb hp hpg hgn bg fG
            generalize rows sf (sb d) k 1 = y0 at *
            generalize rows sf (sb d) k 14 = y13 at *
            generalize sf y13.toNat = s13 at *
            generalize hT : tn k = T at *
            clear hT
            generalize hq1 : y0 ^^^ s13 = q1 at *
            have HHN := Aside0.mk HN
            clear HN hq1
            go_wp2
            go_region
            go_wp2
            go_roundw
            case rel => exact ⟨1 + 1, by omega, by go_num, HHN.out, far_of HBL.out (Nat.ne_of_gt HHP.out.2.2) _, far_of HBP.out (Nat.ne_of_lt HHP.out.2.1) _, (HHB.out.setCell (Nat.le_of_lt HHP.out.2.1) _).drew, HHP.out⟩
            case measure =>
              simp [RowKit.intOf]
              try omega
          · have c0 := cL 2 (by omega)
            have c13 := cL 15 (by omega)
            have cs := cS (rows sf (sb d) k 15).toNat (b8_lt _)
            have x1 := xor_b8 (rows sf (sb d) k 2) (sf (rows sf (sb d) k 15).toNat)
            have hv : rows sf (sb d) (k + 1) 2 = (rows sf (sb d) k 2 ^^^ sf (rows sf (sb d) k 15).toNat) := rfl
            have HN := put_of bg _ _ hst
            rw [hv] at HN
            have cW0 : wr.cell? ⟨G, 1 + (k + 1) * 16 + 2, none⟩ = _ := cW
            have fG0 := fG (1 + (k + 1) * 16 + 2)
            have hlt := b8_lt (rows sf (sb d) k 15)
            have HBL := Aside0.mk bl
            have HBP := Aside0.mk bp
            have HHB := Aside0.mk hb
            have HHP := Aside0.mk (And.intro hp (And.intro hpg hgn))
            clear cL cS hst cW hv bl bp hb hp hpg hgn bg fG
            generalize rows sf (sb d) k 2 = y0 at *
            generalize rows sf (sb d) k 15 = y13 at *
            generalize sf y13.toNat = s13 at *
            generalize hT : tn k = T at *
            clear hT
            generalize hq1 : y0 ^^^ s13 = q1 at *
            have HHN := Aside0.mk HN
            clear HN hq1
            go_wp2
            go_region
            go_wp2
            go_roundw
            case rel => exact ⟨2 + 1, by omega, by go_num, HHN.out, far_of HBL.out (Nat.ne_of_gt HHP.out.2.2) _, far_of HBP.out (Nat.ne_of_lt HHP.out.2.1) _, (HHB.out.setCell (Nat.le_of_lt HHP.out.2.1) _).drew, HHP.out⟩
            case measure =>
              simp [RowKit.intOf]
              try omega
          · have c0 := cL 3 (by omega)
            have c13 := cL 12 (by omega)
            have cs := cS (rows sf (sb d) k 12).toNat (b8_lt _)
            have x1 := xor_b8 (rows sf (sb d) k 3) (sf (rows sf (sb d) k 12).toNat)
            have hv : rows sf (sb d) (k + 1) 3 = (rows sf (sb d) k 3 ^^^ sf (rows sf (sb d) k 12).toNat) := rfl
            have HN := put_of bg _ _ hst
            rw [hv] at HN
            have cW0 : wr.cell? ⟨G, 1 + (k + 1) * 16 + 3, none⟩ = _ := cW
            have fG0 := fG (1 + (k + 1) * 16 + 3)
            have hlt := b8_lt (rows sf (sb d) k 12)
            have HBL := Aside0.mk bl
            have HBP := Aside0.mk bp
            have HHB := Aside0.mk hb
            have HHP := Aside0.mk (And.intro hp (And.intro hpg hgn))
            clear cL cS hst cW hv bl bp hb hp hpg hgn bg fG
            generalize rows sf (sb d) k 3 = y0 at *
            generalize rows sf (sb d) k 12 = y13 at *
            generalize sf y13.toNat = s13 at *
            generalize hT : tn k = T at *
            clear hT
            generalize hq1 : y0 ^^^ s13 = q1 at *
            have HHN := Aside0.mk HN
            clear HN hq1
            go_wp2
            go_region
            go_wp2
            go_roundw
            case rel => exact ⟨3 + 1, by omega, by go_num, HHN.out, far_of HBL.out (Nat.ne_of_gt HHP.out.2.2) _, far_of HBP.out (Nat.ne_of_lt HHP.out.2.1) _, (HHB.out.setCell (Nat.le_of_lt HHP.out.2.1) _).drew, HHP.out⟩
            case measure =>
              simp [RowKit.intOf]
              try omega
          · have c0 := cL (m + 4) (by omega)
            have c4 : wr.cell? ⟨G, 1 + (k + 1) * 16 + m, none⟩ = some (.int .u8 ((rows sf (sb d) (k + 1) m).toNat : Int)) := by
              rw [show 1 + (k + 1) * 16 + m = 1 + (16 * (k + 1) + m) by omega, cell_of bg, kc_w _ _ _ _ (by omega)]
              unfold pw wr0
              rw [if_pos (by omega), show (16 * (k + 1) + m) / 16 = k + 1 by omega, show (16 * (k + 1) + m) % 16 = m by omega]
            have x1 := xor_b8 (rows sf (sb d) k (m + 4)) (rows sf (sb d) (k + 1) m)
            have hv : rows sf (sb d) (k + 1) (m + 4) = rows sf (sb d) k (m + 4) ^^^ rows sf (sb d) (k + 1) m := rfl
            have HN := put_of bg _ _ hst
            rw [hv] at HN
            have fG0 := fG (1 + (k + 1) * 16 + (m + 4))
            have HBL := Aside0.mk bl
            have HBP := Aside0.mk bp
            have HHB := Aside0.mk hb
            have HHP := Aside0.mk (And.intro hp (And.intro hpg hgn))
            clear cL cS hst hv bl bp hb hp hpg hgn bg fG
            generalize rows sf (sb d) k (m + 4) = y0 at *
            generalize rows sf (sb d) (k + 1) m = y4 at *
            generalize hq1 : y0 ^^^ y4 = q1 at *
            have HHN := Aside0.mk HN
            clear HN hq1
            have hm0 : (0 : Int) ≤ (m : Int) := by omega
            have hm1 : (m : Int) < 16 := by omega
            have hm2 : (m : Int) + 4 < 16 := by omega
            have hm3 : (0 : Int) ≤ (m : Int) + 4 := by omega
            have hmw : IntKind.i64.wrap (m : Int) = (m : Int) := by rw [IntKind.wrap_i64]; omega
            have hmw4 : IntKind.i64.wrap ((m : Int) + 4) = (m : Int) + 4 := by rw [IntKind.wrap_i64]; omega
            have hme : ((m : Int) + 4 - 4) = (m : Int) := by omega
            go_wp2
            go_region
            go_wp2
            go_roundw
            case rel => exact ⟨m + 4 + 1, by omega, by go_num, HHN.out, far_of HBL.out (Nat.ne_of_gt HHP.out.2.2) _, far_of HBP.out (Nat.ne_of_lt HHP.out.2.1) _, (HHB.out.setCell (Nat.le_of_lt HHP.out.2.1) _).drew, HHP.out⟩
            case measure =>
              simp [RowKit.intOf]
              try omega
        · obtain rfl : j = 16 := by omega
          have hT : tm (tn k) 2#8 = tn (k + 1) := rfl
          have t2 := times_two (tn k)
          rw [hT] at t2
          have T2 := Aside0.mk t2
          have e16 : 16 * (k + 1) + 16 = 16 * (k + 1 + 1) := by omega
          rw [e16] at bg
          have HBG := Aside0.mk bg
          have HBP := Aside0.mk bp
          have HHB := Aside0.mk hb
          have HHP := Aside0.mk (And.intro hp hpg)
          clear t2 hT e16 bg bl bp hb hp hpg hgn h16 hj
          go_wp2_with ((go_at_call 11; with_reducible refine (T2.out _).mono ?_); rintro e w5 ⟨rfl, rfl⟩)
          go_roundw
          case rel => exact ⟨k + 1, by omega, rfl, by go_num, HBG.out, HBP.out, HHB.out, HHP.out⟩
          case measure =>
            simp [RowKit.intOf]
            try omega
    · obtain rfl : k = 10 := by omega
      have e : kc true (pw sf (sb d) (16 * (10 + 1))) sf = kc true (wr0 sf (sb d)) sf := kc_congr _ _ _ _ (fun i hi => by
        unfold pw
        rw [if_pos (by omega)])
      rw [e] at bg
      have hs := info28 true (wr0 sf (sb d)) sf
      have h1 := kc_one true (wr0 sf (sb d)) sf
      have hks := kc_size true (wr0 sf (sb d)) sf
      clear e
      obtain ⟨KF, hKF⟩ : ∃ KF, kc true (wr0 sf (sb d)) sf = KF := ⟨_, rfl⟩
      rw [hKF] at bg hs h1 hks
      have HKF := Aside0.mk hKF
      clear hKF
      have HS := Aside0.mk hs
      have H1 := Aside0.mk h1
      have HZ := Aside0.mk (HZS.out.trans hks.symm)
      have HBG := Aside0.mk bg
      have HBP := Aside0.mk bp
      have HHB := Aside0.mk hb
      clear hs h1 hks bg bp hb h10 hk
      go_wp2_with (first
        | (refine wpList_load_row rfl 28 _ rfl G rfl 28 KF (0, 0) _ HBG.out HU.out rfl HS.out ?_)
        | (refine wpList_store_row rfl 28 _ _ rfl w.heap.size KF rfl rfl 28 Z HBP.out HS.out HZ.out H1.out ?_))
      rw [HKF.out]
      refine bodyPost_ret (results_row_tmp rfl _ _ w.heap.size 28 KF (0, 0) _ rfl (row_of HBP.out _) HU.out rfl HS.out) rfl ⟨rfl, ?_⟩
      exact below_setRow HHB.out (Nat.le_refl _) _
end Go.Proofs.Ytiblkbkdfebfbaa.Aes
