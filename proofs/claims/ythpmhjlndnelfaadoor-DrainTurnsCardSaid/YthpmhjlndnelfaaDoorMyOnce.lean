/- DrainOnce: the walk of the law. The conditions: 64 bits; the tables are laid. -/
import Derived.Test.YthpmhjlndnelfaaDoorMyOpen
namespace Go.Proofs.YthpmhjlndnelfaaDoor.Real
open Go.RowKit Go.Lib Go.Proofs.YthpmhjlndnelfaaDoorW.PrintWords PDrainTurns

theorem bel_step {w W W' : World} (h : Below w.heap.size w W) (hb : Below W.heap.size W W') : Below w.heap.size w W' := h.trans (hb.mono h.size)

theorem add_some (a b : Int) : ∃ s, word_Add.f a b = some s ∧ 0 ≤ s ∧ s < 18446744073709551616 := by
  unfold word_Add.f
  rw [IntKind.wrap_u64, IntKind.wrap_u64]
  split
  · exact ⟨_, rfl, by omega, by omega⟩
  · exact ⟨_, rfl, by omega, by omega⟩

theorem box_five {w : World} {g : Nat} {b o : Bool} {d c f : Int} (h : Bx w g (dc b o d c f) 41) (b' o' : Bool) (d' c' f' : Int) :
    Bx (((((w.setCell ⟨g, 0, none⟩ (.bool b')).setCell ⟨g, 1, none⟩ (.bool o')).setCell ⟨g, 2, none⟩ (.int .u64 d')).setCell ⟨g, 3, none⟩ (.int .u64 c')).setCell ⟨g, 4, none⟩ (.int .u64 f')) g (dc b' o' d' c' f') 41 :=
  blk_put (blk_put (blk_put (blk_put (blk_put h 0 _ rfl) 1 _ rfl) 2 _ rfl) 3 _ rfl) 4 _ rfl

theorem below_five {w W : World} {g : Nat} (h : Below w.heap.size w W) (hg : w.heap.size ≤ g) (v0 v1 v2 v3 v4 : Value) :
    Below w.heap.size w (((((W.setCell ⟨g, 0, none⟩ v0).setCell ⟨g, 1, none⟩ v1).setCell ⟨g, 2, none⟩ v2).setCell ⟨g, 3, none⟩ v3).setCell ⟨g, 4, none⟩ v4) :=
  below_set (below_set (below_set (below_set (below_set h hg) hg) hg) hg) hg

/-- Behind k turns. -/
def OnceRel (w0 : World) (g : Nat) (D : Int) (n : Nat) (ti ov i : Value) (wr : World) : Prop :=
  ∃ (k : Nat) (t : Int) (o : Bool) (c f : Int), k ≤ n ∧ ti = .int .i64 t ∧ ov = .bool o ∧ i = .int .i64 (k : Int) ∧ (t = 0 ∨ t = 1 ∧ o = true) ∧ 0 ≤ c ∧ c < 18446744073709551616 ∧
    Bx wr g (dc true o D c f) 41 ∧ w0.heap.size ≤ g ∧ Below w0.heap.size w0 wr

set_option maxRecDepth 30000 in
set_option maxHeartbeats 4000000 in
theorem once_short (now n : Int) (h1 : 0 ≤ now) (h2 : now ≤ 1152921504606846976) (h3 : 0 ≤ n) (h4 : n ≤ 1152921504606846976) (A : Option Addr) (l : List Act) (c : Nat) (w : World) (ht : Tabs w) (hl : l.length ≤ 60) (ta : Acts w A l) :
    Calls Tryd.prog 8 #[.int .u64 now, .int .u64 n, .slice A l.length c] w fun e w' => e = .returned (.bool true) ∧ Below w.heap.size w w' := by
  have hu41 := Tryd.underlying41
  have HT := Aside0.mk ht
  have TA := Aside0.mk ta
  clear ht ta
  obtain ⟨D, hD⟩ : ∃ D, D = now + n := ⟨_, rfl⟩
  have hadd : word_Add.f now n = some D := by rw [add_sat now n h1 (by omega) h3 (by omega)]; unfold sat; rw [if_pos (by omega), hD]
  have HA := Aside0.mk (begin_off false 0 0 0 now n D hadd)
  have hw : IntKind.u64.wrap (now + n) = D := by rw [IntKind.wrap_u64, hD]; omega
  have hD0 : Aside0 (D = now + n) := ⟨hD⟩
  have g1 : decide (now > 1152921504606846976) = false := decide_eq_false (by omega)
  have g2 : decide (n > 1152921504606846976) = false := decide_eq_false (by omega)
  have hl' : (l.length : Int) ≤ 60 := by omega
  have HL := Aside0.mk hl
  clear hD hadd h1 h2 h3 h4 hl
  go_enter Tryd.func8, Tryd.ntmps8
  go_wp2_with (first
    | (go_at_call 28; refine (awake25 _ HT.out).mono ?_; rintro e w1 ⟨rfl, hb1⟩; have HB1 := Aside0.mk hb1; clear hb1)
    | ((go_at_call 29; with_reducible refine (HA.out _).mono ?_); rintro e w2 ⟨rfl, hb2⟩; have HB2 := Aside0.mk (HB1.out.trans (hb2.mono HB1.out.size)); clear hb2))
  have hG : w.heap.size ≤ w2.heap.size := HB2.out.size
  have HW2 := Aside0.mk (below_alloc HB2.out (.cells (dc true false D 0 0) 41))
  generalize hg : w2.heap.size = G at *
  go_loopw [9, 10, 39] (fun ti ov i wr => OnceRel w G D l.length ti ov i wr) (fun _ _ i _ => l.length - (RowKit.intOf i).toNat)
  case atStart =>
    subst hg
    exact ⟨0, 0, false, 0, 0, Nat.zero_le _, rfl, rfl, rfl, .inl rfl, by omega, by omega, blk_new w2 _, hG, HW2.out⟩
  case round =>
    obtain ⟨k, t, o, cc, ff, hk, rfl, rfl, rfl, hto, hc0, hc1, hbx, hGw, hbel⟩ := hrel
    have BD := Aside0.mk hbx
    have HW := Aside0.mk hbel
    have cBD := blk_cell hbx
    have fBD := blk_frozen hbx
    have zBD := blk_lt hbx
    have CC := Aside0.mk (And.intro hc0 hc1)
    clear hc0 hc1
    by_cases hlt : k < l.length
    · obtain ⟨a, ha⟩ : ∃ a, l[k]? = some a := ⟨_, List.getElem?_eq_getElem hlt⟩
      obtain ⟨ok, ad, rfl, x0, x1, x2, x3⟩ := TA.out.at hbel ha
      clear ok hbel ha hbx
      cases o with
      | true =>
        have ht1 : decide (t > 1) = false := decide_eq_false (by rcases hto with h | ⟨h, _⟩ <;> omega)
        have HTO : Aside0 (t = 0 ∨ t = 1 ∧ true = true) := ⟨hto⟩
        clear hto
        have HK := Aside0.mk (tick_idle true true D cc ff a.now a.live rfl)
        have HO := Aside0.mk (over_at true true D cc ff)
        have HC := Aside0.mk (closed_off true true D cc ff 1 rfl)
        go_wp2_with (first
          | ((go_at_call 30; with_reducible refine (HK.out _).mono ?_); rintro e w3 ⟨rfl, hb⟩; have nBD := Aside0.mk (blk_below (blk_alloc BD.out _) hb); have nBA := Aside0.mk (blk_below (blk_new _ _) hb); have nW := Aside0.mk (bel_step (below_alloc HW.out _) hb); clear hb; (try clear cBD); (try clear fBD); (try clear zBD); (try clear BD); have BD := nBD; clear nBD; have cBD := blk_cell BD.out; have fBD := blk_frozen BD.out; have zBD := blk_lt BD.out; (try clear cBA); (try clear fBA); (try clear zBA); (try clear BA); have BA := nBA; clear nBA; have cBA := blk_cell BA.out; have fBA := blk_frozen BA.out; have zBA := blk_lt BA.out; (try clear HW); have HW := nW; clear nW)
          | ((go_at_call 31; with_reducible refine (HO.out _).mono ?_); rintro e w4 ⟨rfl, hb⟩; have nBD := Aside0.mk (blk_below (blk_alloc BD.out _) hb); have nBA := Aside0.mk (blk_below (blk_alloc BA.out _) hb); have nBX := Aside0.mk (blk_below (blk_new _ _) hb); have nW := Aside0.mk (bel_step (below_alloc HW.out _) hb); clear hb; (try clear cBD); (try clear fBD); (try clear zBD); (try clear BD); have BD := nBD; clear nBD; have cBD := blk_cell BD.out; have fBD := blk_frozen BD.out; have zBD := blk_lt BD.out; (try clear cBA); (try clear fBA); (try clear zBA); (try clear BA); have BA := nBA; clear nBA; have cBA := blk_cell BA.out; have fBA := blk_frozen BA.out; have zBA := blk_lt BA.out; (try clear cBX); (try clear fBX); (try clear zBX); (try clear BX); have BX := nBX; clear nBX; have cBX := blk_cell BX.out; have fBX := blk_frozen BX.out; have zBX := blk_lt BX.out; (try clear HW); have HW := nW; clear nW)
          | ((go_at_call 31; with_reducible refine (HO.out _).mono ?_); rintro e w4 ⟨rfl, hb⟩; have nBD := Aside0.mk (blk_below (BD.out) hb); have nBA := Aside0.mk (blk_below (BA.out) hb); have nBX := Aside0.mk (blk_below (BX.out) hb); have nW := Aside0.mk (bel_step HW.out hb); clear hb; (try clear cBD); (try clear fBD); (try clear zBD); (try clear BD); have BD := nBD; clear nBD; have cBD := blk_cell BD.out; have fBD := blk_frozen BD.out; have zBD := blk_lt BD.out; (try clear cBA); (try clear fBA); (try clear zBA); (try clear BA); have BA := nBA; clear nBA; have cBA := blk_cell BA.out; have fBA := blk_frozen BA.out; have zBA := blk_lt BA.out; (try clear cBX); (try clear fBX); (try clear zBX); (try clear BX); have BX := nBX; clear nBX; have cBX := blk_cell BX.out; have fBX := blk_frozen BX.out; have zBX := blk_lt BX.out; (try clear HW); have HW := nW; clear nW)
          | ((go_at_call 32; with_reducible refine (HC.out _).mono ?_); rintro e w5 ⟨rfl, hb⟩; have nBD := Aside0.mk (blk_below (BD.out) hb); have nBA := Aside0.mk (blk_below (BA.out) hb); have nBX := Aside0.mk (blk_below (BX.out) hb); have nW := Aside0.mk (bel_step HW.out hb); clear hb; (try clear cBD); (try clear fBD); (try clear zBD); (try clear BD); have BD := nBD; clear nBD; have cBD := blk_cell BD.out; have fBD := blk_frozen BD.out; have zBD := blk_lt BD.out; (try clear cBA); (try clear fBA); (try clear zBA); (try clear BA); have BA := nBA; clear nBA; have cBA := blk_cell BA.out; have fBA := blk_frozen BA.out; have zBA := blk_lt BA.out; (try clear cBX); (try clear fBX); (try clear zBX); (try clear BX); have BX := nBX; clear nBX; have cBX := blk_cell BX.out; have fBX := blk_frozen BX.out; have zBX := blk_lt BX.out; (try clear HW); have HW := nW; clear nW))
        go_roundw
        case rel => exact ⟨k + 1, t, true, cc, ff, hlt, rfl, rfl, by go_num, by simpa using HTO.out, CC.out.1, CC.out.2, box_five BD.out _ _ _ _ _, hGw, below_five HW.out hGw _ _ _ _ _⟩
        case measure => simp [RowKit.intOf]; omega
      | false =>
        obtain rfl : t = 0 := by rcases hto with h | ⟨_, h⟩; exact h; cases h
        clear hto
        by_cases q1 : a.live < 1
        · have HK := Aside0.mk (tick_none D cc ff a.now a.live q1)
          have HO := Aside0.mk (over_at true true D cc ff)
          have HC := Aside0.mk (closed_off true true D cc ff 1 rfl)
          clear q1
          go_wp2_with (first
            | ((go_at_call 30; with_reducible refine (HK.out _).mono ?_); rintro e w3 ⟨rfl, hb⟩; have nBD := Aside0.mk (blk_below (blk_alloc BD.out _) hb); have nBA := Aside0.mk (blk_below (blk_new _ _) hb); have nW := Aside0.mk (bel_step (below_alloc HW.out _) hb); clear hb; (try clear cBD); (try clear fBD); (try clear zBD); (try clear BD); have BD := nBD; clear nBD; have cBD := blk_cell BD.out; have fBD := blk_frozen BD.out; have zBD := blk_lt BD.out; (try clear cBA); (try clear fBA); (try clear zBA); (try clear BA); have BA := nBA; clear nBA; have cBA := blk_cell BA.out; have fBA := blk_frozen BA.out; have zBA := blk_lt BA.out; (try clear HW); have HW := nW; clear nW)
            | ((go_at_call 31; with_reducible refine (HO.out _).mono ?_); rintro e w4 ⟨rfl, hb⟩; have nBD := Aside0.mk (blk_below (blk_alloc BD.out _) hb); have nBA := Aside0.mk (blk_below (blk_alloc BA.out _) hb); have nBX := Aside0.mk (blk_below (blk_new _ _) hb); have nW := Aside0.mk (bel_step (below_alloc HW.out _) hb); clear hb; (try clear cBD); (try clear fBD); (try clear zBD); (try clear BD); have BD := nBD; clear nBD; have cBD := blk_cell BD.out; have fBD := blk_frozen BD.out; have zBD := blk_lt BD.out; (try clear cBA); (try clear fBA); (try clear zBA); (try clear BA); have BA := nBA; clear nBA; have cBA := blk_cell BA.out; have fBA := blk_frozen BA.out; have zBA := blk_lt BA.out; (try clear cBX); (try clear fBX); (try clear zBX); (try clear BX); have BX := nBX; clear nBX; have cBX := blk_cell BX.out; have fBX := blk_frozen BX.out; have zBX := blk_lt BX.out; (try clear HW); have HW := nW; clear nW)
            | ((go_at_call 31; with_reducible refine (HO.out _).mono ?_); rintro e w4 ⟨rfl, hb⟩; have nBD := Aside0.mk (blk_below (BD.out) hb); have nBA := Aside0.mk (blk_below (BA.out) hb); have nBX := Aside0.mk (blk_below (BX.out) hb); have nW := Aside0.mk (bel_step HW.out hb); clear hb; (try clear cBD); (try clear fBD); (try clear zBD); (try clear BD); have BD := nBD; clear nBD; have cBD := blk_cell BD.out; have fBD := blk_frozen BD.out; have zBD := blk_lt BD.out; (try clear cBA); (try clear fBA); (try clear zBA); (try clear BA); have BA := nBA; clear nBA; have cBA := blk_cell BA.out; have fBA := blk_frozen BA.out; have zBA := blk_lt BA.out; (try clear cBX); (try clear fBX); (try clear zBX); (try clear BX); have BX := nBX; clear nBX; have cBX := blk_cell BX.out; have fBX := blk_frozen BX.out; have zBX := blk_lt BX.out; (try clear HW); have HW := nW; clear nW)
            | ((go_at_call 32; with_reducible refine (HC.out _).mono ?_); rintro e w5 ⟨rfl, hb⟩; have nBD := Aside0.mk (blk_below (BD.out) hb); have nBA := Aside0.mk (blk_below (BA.out) hb); have nBX := Aside0.mk (blk_below (BX.out) hb); have nW := Aside0.mk (bel_step HW.out hb); clear hb; (try clear cBD); (try clear fBD); (try clear zBD); (try clear BD); have BD := nBD; clear nBD; have cBD := blk_cell BD.out; have fBD := blk_frozen BD.out; have zBD := blk_lt BD.out; (try clear cBA); (try clear fBA); (try clear zBA); (try clear BA); have BA := nBA; clear nBA; have cBA := blk_cell BA.out; have fBA := blk_frozen BA.out; have zBA := blk_lt BA.out; (try clear cBX); (try clear fBX); (try clear zBX); (try clear BX); have BX := nBX; clear nBX; have cBX := blk_cell BX.out; have fBX := blk_frozen BX.out; have zBX := blk_lt BX.out; (try clear HW); have HW := nW; clear nW))
          go_roundw
          case rel => exact ⟨k + 1, 0, true, cc, ff, hlt, rfl, rfl, by go_num, .inl rfl, CC.out.1, CC.out.2, box_five BD.out _ _ _ _ _, hGw, below_five HW.out hGw _ _ _ _ _⟩
          case measure => simp [RowKit.intOf]; omega
        · by_cases q2 : a.now < D
          · obtain ⟨c2, e2, e3, e4⟩ := add_some cc 1
            have C2 := Aside0.mk (And.intro e3 e4)
            have HK := Aside0.mk (tick_wait D cc ff a.now a.live q1 q2)
            have HO := Aside0.mk (over_at true false D cc ff)
            have HC := Aside0.mk (closed_on D cc ff 1 c2 e2)
            clear q1 q2 e2 e3 e4
            go_wp2_with (first
              | ((go_at_call 30; with_reducible refine (HK.out _).mono ?_); rintro e w3 ⟨rfl, hb⟩; have nBD := Aside0.mk (blk_below (blk_alloc BD.out _) hb); have nBA := Aside0.mk (blk_below (blk_new _ _) hb); have nW := Aside0.mk (bel_step (below_alloc HW.out _) hb); clear hb; (try clear cBD); (try clear fBD); (try clear zBD); (try clear BD); have BD := nBD; clear nBD; have cBD := blk_cell BD.out; have fBD := blk_frozen BD.out; have zBD := blk_lt BD.out; (try clear cBA); (try clear fBA); (try clear zBA); (try clear BA); have BA := nBA; clear nBA; have cBA := blk_cell BA.out; have fBA := blk_frozen BA.out; have zBA := blk_lt BA.out; (try clear HW); have HW := nW; clear nW)
              | ((go_at_call 31; with_reducible refine (HO.out _).mono ?_); rintro e w4 ⟨rfl, hb⟩; have nBD := Aside0.mk (blk_below (blk_alloc BD.out _) hb); have nBA := Aside0.mk (blk_below (blk_alloc BA.out _) hb); have nBX := Aside0.mk (blk_below (blk_new _ _) hb); have nW := Aside0.mk (bel_step (below_alloc HW.out _) hb); clear hb; (try clear cBD); (try clear fBD); (try clear zBD); (try clear BD); have BD := nBD; clear nBD; have cBD := blk_cell BD.out; have fBD := blk_frozen BD.out; have zBD := blk_lt BD.out; (try clear cBA); (try clear fBA); (try clear zBA); (try clear BA); have BA := nBA; clear nBA; have cBA := blk_cell BA.out; have fBA := blk_frozen BA.out; have zBA := blk_lt BA.out; (try clear cBX); (try clear fBX); (try clear zBX); (try clear BX); have BX := nBX; clear nBX; have cBX := blk_cell BX.out; have fBX := blk_frozen BX.out; have zBX := blk_lt BX.out; (try clear HW); have HW := nW; clear nW)
              | ((go_at_call 31; with_reducible refine (HO.out _).mono ?_); rintro e w4 ⟨rfl, hb⟩; have nBD := Aside0.mk (blk_below (BD.out) hb); have nBA := Aside0.mk (blk_below (BA.out) hb); have nBX := Aside0.mk (blk_below (BX.out) hb); have nW := Aside0.mk (bel_step HW.out hb); clear hb; (try clear cBD); (try clear fBD); (try clear zBD); (try clear BD); have BD := nBD; clear nBD; have cBD := blk_cell BD.out; have fBD := blk_frozen BD.out; have zBD := blk_lt BD.out; (try clear cBA); (try clear fBA); (try clear zBA); (try clear BA); have BA := nBA; clear nBA; have cBA := blk_cell BA.out; have fBA := blk_frozen BA.out; have zBA := blk_lt BA.out; (try clear cBX); (try clear fBX); (try clear zBX); (try clear BX); have BX := nBX; clear nBX; have cBX := blk_cell BX.out; have fBX := blk_frozen BX.out; have zBX := blk_lt BX.out; (try clear HW); have HW := nW; clear nW)
              | ((go_at_call 32; with_reducible refine (HC.out _).mono ?_); rintro e w5 ⟨rfl, hb⟩; have nBD := Aside0.mk (blk_below (BD.out) hb); have nBA := Aside0.mk (blk_below (BA.out) hb); have nBX := Aside0.mk (blk_below (BX.out) hb); have nW := Aside0.mk (bel_step HW.out hb); clear hb; (try clear cBD); (try clear fBD); (try clear zBD); (try clear BD); have BD := nBD; clear nBD; have cBD := blk_cell BD.out; have fBD := blk_frozen BD.out; have zBD := blk_lt BD.out; (try clear cBA); (try clear fBA); (try clear zBA); (try clear BA); have BA := nBA; clear nBA; have cBA := blk_cell BA.out; have fBA := blk_frozen BA.out; have zBA := blk_lt BA.out; (try clear cBX); (try clear fBX); (try clear zBX); (try clear BX); have BX := nBX; clear nBX; have cBX := blk_cell BX.out; have fBX := blk_frozen BX.out; have zBX := blk_lt BX.out; (try clear HW); have HW := nW; clear nW))
            go_roundw
            case rel => exact ⟨k + 1, 0, false, c2, ff, hlt, rfl, rfl, by go_num, .inl rfl, C2.out.1, C2.out.2, box_five BD.out _ _ _ _ _, hGw, below_five HW.out hGw _ _ _ _ _⟩
            case measure => simp [RowKit.intOf]; omega
          · obtain ⟨f2, e2, _, _⟩ := add_some ff (IntKind.u64.wrap a.live)
            have HK := Aside0.mk (tick_force D cc ff a.now a.live f2 q1 q2 e2)
            have HO := Aside0.mk (over_at true true D cc f2)
            have HC := Aside0.mk (closed_off true true D cc f2 1 rfl)
            have d1 : decide (a.live < 1) = false := decide_eq_false q1
            have d2 : decide (a.now < D) = false := decide_eq_false q2
            clear q1 q2 e2
            go_wp2_with (first
              | ((go_at_call 30; with_reducible refine (HK.out _).mono ?_); rintro e w3 ⟨rfl, hb⟩; have nBD := Aside0.mk (blk_below (blk_alloc BD.out _) hb); have nBA := Aside0.mk (blk_below (blk_new _ _) hb); have nW := Aside0.mk (bel_step (below_alloc HW.out _) hb); clear hb; (try clear cBD); (try clear fBD); (try clear zBD); (try clear BD); have BD := nBD; clear nBD; have cBD := blk_cell BD.out; have fBD := blk_frozen BD.out; have zBD := blk_lt BD.out; (try clear cBA); (try clear fBA); (try clear zBA); (try clear BA); have BA := nBA; clear nBA; have cBA := blk_cell BA.out; have fBA := blk_frozen BA.out; have zBA := blk_lt BA.out; (try clear HW); have HW := nW; clear nW)
              | ((go_at_call 31; with_reducible refine (HO.out _).mono ?_); rintro e w4 ⟨rfl, hb⟩; have nBD := Aside0.mk (blk_below (blk_alloc BD.out _) hb); have nBA := Aside0.mk (blk_below (blk_alloc BA.out _) hb); have nBX := Aside0.mk (blk_below (blk_new _ _) hb); have nW := Aside0.mk (bel_step (below_alloc HW.out _) hb); clear hb; (try clear cBD); (try clear fBD); (try clear zBD); (try clear BD); have BD := nBD; clear nBD; have cBD := blk_cell BD.out; have fBD := blk_frozen BD.out; have zBD := blk_lt BD.out; (try clear cBA); (try clear fBA); (try clear zBA); (try clear BA); have BA := nBA; clear nBA; have cBA := blk_cell BA.out; have fBA := blk_frozen BA.out; have zBA := blk_lt BA.out; (try clear cBX); (try clear fBX); (try clear zBX); (try clear BX); have BX := nBX; clear nBX; have cBX := blk_cell BX.out; have fBX := blk_frozen BX.out; have zBX := blk_lt BX.out; (try clear HW); have HW := nW; clear nW)
              | ((go_at_call 31; with_reducible refine (HO.out _).mono ?_); rintro e w4 ⟨rfl, hb⟩; have nBD := Aside0.mk (blk_below (BD.out) hb); have nBA := Aside0.mk (blk_below (BA.out) hb); have nBX := Aside0.mk (blk_below (BX.out) hb); have nW := Aside0.mk (bel_step HW.out hb); clear hb; (try clear cBD); (try clear fBD); (try clear zBD); (try clear BD); have BD := nBD; clear nBD; have cBD := blk_cell BD.out; have fBD := blk_frozen BD.out; have zBD := blk_lt BD.out; (try clear cBA); (try clear fBA); (try clear zBA); (try clear BA); have BA := nBA; clear nBA; have cBA := blk_cell BA.out; have fBA := blk_frozen BA.out; have zBA := blk_lt BA.out; (try clear cBX); (try clear fBX); (try clear zBX); (try clear BX); have BX := nBX; clear nBX; have cBX := blk_cell BX.out; have fBX := blk_frozen BX.out; have zBX := blk_lt BX.out; (try clear HW); have HW := nW; clear nW)
              | ((go_at_call 32; with_reducible refine (HC.out _).mono ?_); rintro e w5 ⟨rfl, hb⟩; have nBD := Aside0.mk (blk_below (BD.out) hb); have nBA := Aside0.mk (blk_below (BA.out) hb); have nBX := Aside0.mk (blk_below (BX.out) hb); have nW := Aside0.mk (bel_step HW.out hb); clear hb; (try clear cBD); (try clear fBD); (try clear zBD); (try clear BD); have BD := nBD; clear nBD; have cBD := blk_cell BD.out; have fBD := blk_frozen BD.out; have zBD := blk_lt BD.out; (try clear cBA); (try clear fBA); (try clear zBA); (try clear BA); have BA := nBA; clear nBA; have cBA := blk_cell BA.out; have fBA := blk_frozen BA.out; have zBA := blk_lt BA.out; (try clear cBX); (try clear fBX); (try clear zBX); (try clear BX); have BX := nBX; clear nBX; have cBX := blk_cell BX.out; have fBX := blk_frozen BX.out; have zBX := blk_lt BX.out; (try clear HW); have HW := nW; clear nW))
            go_roundw
            case rel => exact ⟨k + 1, 1, true, cc, f2, hlt, rfl, rfl, by go_num, .inr ⟨rfl, rfl⟩, CC.out.1, CC.out.2, box_five BD.out _ _ _ _ _, hGw, below_five HW.out hGw _ _ _ _ _⟩
            case measure => simp [RowKit.intOf]; omega
    · obtain rfl : k = l.length := by omega
      clear hbel hbx hto
      cases o with
      | true =>
        have HK := Aside0.mk (tick_idle true true D cc ff D 1 rfl)
        have HO := Aside0.mk (over_at true true D cc ff)
        go_wp2_with (first
          | ((go_at_call 30; with_reducible refine (HK.out _).mono ?_); rintro e w3 ⟨rfl, hb⟩; have nBD := Aside0.mk (blk_below (BD.out) hb); have nW := Aside0.mk (bel_step HW.out hb); clear hb; (try clear cBD); (try clear fBD); (try clear zBD); (try clear BD); have BD := nBD; clear nBD; have cBD := blk_cell BD.out; have fBD := blk_frozen BD.out; have zBD := blk_lt BD.out; (try clear HW); have HW := nW; clear nW)
          | ((go_at_call 31; with_reducible refine (HO.out _).mono ?_); rintro e w4 ⟨rfl, hb⟩; have nW := Aside0.mk (bel_step (below_alloc HW.out _) hb); clear hb HW; have HW := nW))
        go_ret
        exact ⟨rfl, HW.out⟩
      | false =>
        obtain ⟨f2, e2, _, _⟩ := add_some ff (IntKind.u64.wrap 1)
        have HK := Aside0.mk (tick_force D cc ff D 1 f2 (by omega) (by omega) e2)
        have HO := Aside0.mk (over_at true true D cc f2)
        clear e2
        go_wp2_with (first
          | ((go_at_call 30; with_reducible refine (HK.out _).mono ?_); rintro e w3 ⟨rfl, hb⟩; have nBD := Aside0.mk (blk_below (BD.out) hb); have nW := Aside0.mk (bel_step HW.out hb); clear hb; (try clear cBD); (try clear fBD); (try clear zBD); (try clear BD); have BD := nBD; clear nBD; have cBD := blk_cell BD.out; have fBD := blk_frozen BD.out; have zBD := blk_lt BD.out; (try clear HW); have HW := nW; clear nW)
          | ((go_at_call 31; with_reducible refine (HO.out _).mono ?_); rintro e w4 ⟨rfl, hb⟩; have nW := Aside0.mk (bel_step (below_alloc HW.out _) hb); clear hb HW; have HW := nW))
        go_ret
        exact ⟨rfl, HW.out⟩


set_option maxRecDepth 30000 in
theorem once_long (now n : Int) (A : Option Addr) (L c : Nat) (w : World) (ht : Tabs w) (h : 60 < (L : Int) ∨ (L : Int) ≤ 60 ∧ 1152921504606846976 < now ∨ (L : Int) ≤ 60 ∧ now ≤ 1152921504606846976 ∧ 1152921504606846976 < n) :
    Calls Tryd.prog 8 #[.int .u64 now, .int .u64 n, .slice A L c] w fun e w' => e = .returned (.bool true) ∧ Below w.heap.size w w' := by
  have HT := Aside0.mk ht
  clear ht
  rcases h with h1 | ⟨h1, h2⟩ | ⟨h1, h2, h3⟩
  · have g1 : decide ((L : Int) > 60) = true := decide_eq_true h1
    go_enter Tryd.func8, Tryd.ntmps8
    go_wp2_with (go_at_call 28; refine (awake25 _ HT.out).mono ?_; rintro e w1 ⟨rfl, hb1⟩; have HB1 := Aside0.mk hb1; clear hb1)
    go_ret
    exact ⟨rfl, HB1.out⟩
  · have g2 : decide (now > 1152921504606846976) = true := decide_eq_true h2
    go_enter Tryd.func8, Tryd.ntmps8
    go_wp2_with (go_at_call 28; refine (awake25 _ HT.out).mono ?_; rintro e w1 ⟨rfl, hb1⟩; have HB1 := Aside0.mk hb1; clear hb1)
    go_ret
    exact ⟨rfl, HB1.out⟩
  · have g2 : decide (now > 1152921504606846976) = false := decide_eq_false (by omega)
    have g3 : decide (n > 1152921504606846976) = true := decide_eq_true h3
    go_enter Tryd.func8, Tryd.ntmps8
    go_wp2_with (go_at_call 28; refine (awake25 _ HT.out).mono ?_; rintro e w1 ⟨rfl, hb1⟩; have HB1 := Aside0.mk hb1; clear hb1)
    go_ret
    exact ⟨rfl, HB1.out⟩

theorem once_row (w : World) (now n : Int) (A : Option Addr) (l : List Act) (c : Nat) (hn : (Lit.int .u64 now).wf = true) (hm : (Lit.int .u64 n).wf = true) (ta : Acts w A l) (_ : l.length ≤ maxLen) (_ : l.length ≤ c) (ht : Tabs w) :
    Calls Tryd.prog 8 #[.int .u64 now, .int .u64 n, .slice A l.length c] w fun e w' => e = .returned (.bool true) ∧ Below w.heap.size w w' := by
  have h1 := bd_u64 hn
  have h2 := bd_u64 hm
  by_cases h : l.length ≤ 60 ∧ now ≤ 1152921504606846976 ∧ n ≤ 1152921504606846976
  · exact once_short now n h1.1 h.2.1 h2.1 h.2.2 A l c w ht h.1 ta
  · exact once_long now n A l.length c w ht (by omega)
end Go.Proofs.YthpmhjlndnelfaaDoor.Real
