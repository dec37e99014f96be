/- InboxOrder: the walk of the law. No conditions but the reach of the argument. -/
import Derived.Test.YtihhclgjjgakpaaMyAwake
import Derived.Test.YtihhclgjjgakpaaOwnBytes
namespace Go.Proofs.Ytihhclgjjgakpaa.Inbox
open Go.RowKit Go.Proofs.YtihhclgjjgakpaaW.PrintWords Go.Proofs.YtihhclgjjgakpaaW.PrintLast Go.Proofs.YtihhclgjjgakpaaW.PrintMore

theorem new_at (r : Int) (R : Nat) (w : World) (h : 1 + r % 64 = R) (_ : 1 ≤ R) (_ : R ≤ 64) :
    Calls Try.prog 12 #[.int .i64 (1 + r % 64)] w fun e w' => e = .returned (.tuple #[.agg #[.int .i64 (R : Int), .slice none 0 0, .int .u64 ((0 : Nat) : Int)], .int .i64 0]) ∧ Below w.heap.size w w' := by
  rw [h]; exact new_good R w (by omega) (by omega)

/-- The cells of an inbox's box. -/
structure Boxed (w : World) (g : Nat) (R d : Int) (A : Option Addr) (n c : Nat) : Prop where
  c0 : w.cell? ⟨g, 0, none⟩ = some (.int .i64 R)
  c1 : w.cell? ⟨g, 1, none⟩ = some (.slice A n c)
  c2 : w.cell? ⟨g, 2, none⟩ = some (.int .u64 d)
  f0 : w.frozen? ⟨g, 0, none⟩ = false
  f1 : w.frozen? ⟨g, 1, none⟩ = false
  f2 : w.frozen? ⟨g, 2, none⟩ = false

theorem Boxed.lt {w : World} {g : Nat} {R d : Int} {A : Option Addr} {n c : Nat} (h : Boxed w g R d A n c) : g < w.heap.size := World.block_lt_of_cell? w _ h.c0
theorem Boxed.grown {w w1 : World} {g : Nat} {R d : Int} {A : Option Addr} {n c : Nat} (h : Boxed w g R d A n c) {row : Option Nat} (hg : w.grownBy w1 row) (hne : some g ≠ row) : Boxed w1 g R d A n c :=
  have e := hg.block g h.lt hne
  ⟨(World.cell?_of_block e).trans h.c0, (World.cell?_of_block e).trans h.c1, (World.cell?_of_block e).trans h.c2, (World.frozen?_of_block e).trans h.f0, (World.frozen?_of_block e).trans h.f1, (World.frozen?_of_block e).trans h.f2⟩
theorem Boxed.below {w w1 : World} {g : Nat} {R d : Int} {A : Option Addr} {n c : Nat} (h : Boxed w g R d A n c) (hb : Below w.heap.size w w1) : Boxed w1 g R d A n c :=
  h.grown (grown_of_below hb none) (by simp)
theorem Txt.grown {w w1 : World} {A : Option Addr} {l : List ByteArray} (h : Txt w A l) {row : Option Nat} (hg : w.grownBy w1 row) (hne : ∀ ad, A = some ad → some ad.block ≠ row) : Txt w1 A l := by
  intro i s hi
  obtain ⟨ad, had, hc⟩ := h i s hi
  have hlt := World.block_lt_of_cell? w _ hc
  exact ⟨ad, had, (World.cell?_of_block (hg.block _ hlt (by rw [add_block]; exact hne ad had))).trans hc⟩
/-- A new box, all of its cells written from elsewhere. -/
theorem boxed_set {w : World} {g : Nat} {R d R' d' : Int} {A A' : Option Addr} {n c n' c' : Nat} (h : Boxed w g R d A n c) :
    Boxed (((w.setCell ⟨g, 0, none⟩ (.int .i64 R')).setCell ⟨g, 1, none⟩ (.slice A' n' c')).setCell ⟨g, 2, none⟩ (.int .u64 d')) g R' d' A' n' c' := by
  obtain ⟨q0, q1, q2, f0, f1, f2⟩ := h
  exact ⟨by go_simp, by go_simp, by go_simp, by simpa using f0, by simpa using f1, by simpa using f2⟩
theorem boxed_new {w : World} {R d : Int} {A : Option Addr} {n c : Nat} : Boxed (w.alloc (.cells #[.int .i64 R, .slice A n c, .int .u64 d] 26)) w.heap.size R d A n c :=
  ⟨by go_simp, by go_simp, by go_simp, by go_simp, by go_simp, by go_simp⟩

def PutAt (room d : Int) (l : List ByteArray) (n : Nat) (w : World) (e : Ending) (w' : World) : Prop :=
  ∃ A' c', e = .returned (.tuple #[.agg #[.int .i64 room, .slice A' n c', .int .u64 d], .int .i64 0]) ∧ n ≤ c' ∧ (A' = none → c' = 0) ∧ Txt w' A' l ∧ Below w.heap.size w w' ∧ ∀ ad, A' = some ad → w.heap.size ≤ ad.block
theorem put_at (room d : Int) (A : Option Addr) (l : List ByteArray) (n c : Nat) (x : ByteArray) (w : World) (hl : l.length = n) (h : n < room) (hn : n ≤ 1000000) (hc : n ≤ c) (hA : A = none → c = 0) (ht : Txt w A l) :
    Calls Try.prog 13 #[.agg #[.int .i64 room, .slice A n c, .int .u64 d], .string x] w (PutAt room d (l ++ [x]) (n + 1) w) := by
  subst hl
  refine (put_fits room d A l c x w h hn hc hA ht).mono ?_
  rintro e w' ⟨A', c', h1, h2, h3⟩
  exact ⟨A', c', by simpa using h1, by simpa using h2, h3⟩

theorem put_over (room d d' : Int) (A : Option Addr) (n c : Nat) (x : ByteArray) (w : World) (h : room ≤ n) (hn : n ≤ 140737488351232) (hd : IntKind.u64.wrap (d + 1) = d') :
    Calls Try.prog 13 #[.agg #[.int .i64 room, .slice A n c, .int .u64 d], .string x] w fun e w' => e = .returned (.tuple #[.agg #[.int .i64 room, .slice A n c, .int .u64 d'], .int .i64 12]) ∧ Below w.heap.size w w' := by
  subst hd; exact put_full room d A n c x w h hn

theorem ret_bool {a b : Bool} (h : a = b) : Ending.returned (.bool a) = .returned (.bool b) := by rw [h]

/-- Loop 2: j of the m texts that wait were taken. -/
def Rel2 (w0 : World) (g R d : Nat) (A7 : Option Addr) (q : List ByteArray) (i : Value) (wr : World) : Prop :=
  ∃ (j : Nat) (A' : Option Addr) (c' : Nat), j ≤ q.length ∧ i = .int .i64 (j : Int) ∧ Boxed wr g R (d : Int) A' (q.length - j) c' ∧
    Txt wr A' (q.drop j) ∧ q.length - j ≤ c' ∧ (∀ ad, A' = some ad → g < ad.block) ∧ Txt wr A7 q ∧ Below w0.heap.size w0 wr

def TakeAt (A : Option Addr) (room d : Int) (x : ByteArray) (l : List ByteArray) (n : Nat) (w : World) (e : Ending) (w' : World) : Prop :=
  ∃ A' c', e = .returned (.tuple #[.agg #[.int .i64 room, .slice A' n c', .int .u64 d], .string x, .bool true]) ∧ n ≤ c' ∧ (A' = none → c' = 0) ∧ Txt w' A' l ∧ Below w.heap.size w w' ∧ ∀ ad', A' = some ad' → ∃ ad, A = some ad ∧ ad'.block = ad.block
theorem take_at (room d : Int) (A : Option Addr) (n c : Nat) (x : ByteArray) (l : List ByteArray) (w : World) (hn : n = l.length + 1) (hl : l.length ≤ 1000000) (hc : n ≤ c) (ht : Txt w A (x :: l)) :
    Calls Try.prog 14 #[.agg #[.int .i64 room, .slice A n c, .int .u64 d]] w (TakeAt A room d x l (n - 1) w) := by
  subst hn
  exact (take_some room d A c x l w hl hc ht).mono fun e w' h => h

/-- Loop 1: k texts were put, the first m of them wait, the others were dropped. -/
def Rel1 (w0 : World) (g R : Nat) (l : List ByteArray) (v i : Value) (wr : World) : Prop :=
  ∃ (k m : Nat) (A' : Option Addr) (c' : Nat), k ≤ l.length ∧ m = min k R ∧ i = .int .i64 (k : Int) ∧ Boxed wr g R ((k - m : Nat) : Int) A' m c' ∧
    Txt wr A' (l.take m) ∧ m ≤ c' ∧ (A' = none → c' = 0) ∧ (∀ ad, A' = some ad → g < ad.block ∧ some ad.block ≠ v.ownBlock) ∧
    wr.ownsRow (g + 1) 9 1 v m ((l.take m).map .string) ∧ Below w0.heap.size w0 wr

theorem take_snoc (l : List ByteArray) (k : Nat) (h : k < l.length) : l.take (k + 1) = l.take k ++ [l[k]] := by
  rw [List.take_succ_eq_append_getElem h]

set_option maxHeartbeats 1000000 in
theorem order_short (r : Int) (h0 : 0 ≤ r) (h1 : r ≤ 255) (A : Option Addr) (l : List ByteArray) (c : Nat) (w : World) (hl : l.length ≤ 100) (ht : Txt w A l) :
    Calls Try.prog 3 #[.int .u8 r, .slice A l.length c] w fun e w' => e = .returned (.bool true) ∧ Below w.heap.size w w' := by
  have hu26 := Try.underlying26
  obtain ⟨R, hR⟩ : ∃ R : Nat, 1 + r % 64 = R := ⟨(1 + r % 64).toNat, by omega⟩
  have hR1 : 1 ≤ R := by omega
  have hR2 : R ≤ 64 := by omega
  have HR := Aside0.mk hR
  clear hR
  have HT := Aside0.mk ht
  clear ht
  go_enter Try.func3, Try.ntmps3
  go_wp2_with (first | (go_at_call 11; refine (awake_any _).mono ?_; rintro e w1 ⟨rfl, hb1⟩; have HB1 := Aside0.mk hb1; clear hb1) | (go_at_call 12; refine (new_at r R _ HR.out hR1 hR2).mono ?_; rintro e w2 ⟨rfl, hb2⟩; have HB2 := Aside0.mk (HB1.out.trans (hb2.mono HB1.out.size)); have hz2 := hb2.size; clear hb2))
  have hw2 : w.heap.size ≤ w2.heap.size := HB2.out.size
  go_loopw [7, 38] (fun v i wr => Rel1 w w2.heap.size R l v i wr) (fun _ i _ => l.length - (intOf i).toNat)
  case atStart =>
    refine ⟨0, 0, none, 0, Nat.zero_le _, by simp, rfl, boxed_new, ?_, Nat.le_refl _, fun _ => rfl, by simp, ?_, HB2.out.alloc hw2 _⟩
    · intro i s hi; simp at hi
    · exact own_nil _ _ _ _
  case round =>
    obtain ⟨k, m, A', c', hk, hm, rfl, hbx, htx, hc', hA', hd', hown, hbel⟩ := hrel
    have hlt2 := hbx.lt
    have HTX := Aside0.mk htx
    have HA' := Aside0.mk hA'
    have HD' := Aside0.mk hd'
    have HO := Aside0.mk hown
    have HBL := Aside0.mk hbel
    have HBX := Aside0.mk hbx
    obtain ⟨q0, q1, q2, f0, f1, f2⟩ := hbx
    have hsz := hbel.size
    clear htx hA' hd' hown hbel
    by_cases hlt : k < l.length
    · obtain ⟨ad, rfl, hx0⟩ := HT.out k l[k] (List.getElem?_eq_getElem hlt)
      have hx := pw_cell_below HBL.out hx0
      have hmk : m ≤ l.length := by omega
      have hlen : (l.take m).length = m := by simp; omega
      have HL := Aside0.mk hlen
      clear hx0 hlen
      by_cases hfit : k < R
      · obtain rfl : m = k := by omega
        have HM := Aside0.mk hm
        clear hm
        go_wp2_with fail
        refine (put_at R 0 A' (l.take m) m c' l[m] wr HL.out (by omega) (by omega) hc' HA'.out HTX.out).mono ?_
        rintro e w3 ⟨A3, c3, rfl, hc3, hA3, ht3, hb3, hd3⟩
        have HTX3 := Aside0.mk ht3
        have HA3 := Aside0.mk hA3
        have HD3 := Aside0.mk hd3
        have HB3 := Aside0.mk hb3
        have hz3 := hb3.size
        have hlt3 : w2.heap.size < w3.heap.size := by omega
        obtain ⟨q0, q1, q2, f0, f1, f2⟩ := HBX.out.below hb3
        clear ht3 hA3 hd3 hb3
        go_wp2_with (at_builtin; refine print_append (w2.heap.size + 1) rfl (.tmp 51) (.tmp 53) 22 9 (.string ⟨#[]⟩) 16 rfl Try.underlying22 info9' rfl (by decide) u7 ((l.take m).map .string) (.string l[m]) rfl ?hx rfl ?own (Below.refl _ _) ?base ?len ?grow)
        case hx => go_simp
        case own =>
          rw [List.length_map, HL.out]
          exact (ownsRow_setCell_below (ownsRow_setCell_below (ownsRow_setCell_below (pw_own_below HO.out HB3.out) (by simp) _) (by simp) _) (by simp) _).alloc _
        case base => simp; omega
        case len => simp; omega
        case grow =>
          intro v1 w4 hown4 _ hg4 hv4
          have HO4 := Aside0.mk hown4
          have HG4 := Aside0.mk hg4
          have HV4 := Aside0.mk hv4
          clear hown4 hg4 hv4
          go_wp2
          go_roundw
          case rel =>
            have hu7 := own_base HO.out
            have hu7' := own_lt HO.out
            refine ⟨m + 1, m + 1, A3, c3, hlt, by have := HM.out; omega, by go_num, ?_, ?_, hc3, HA3.out, ?_, ?_, ?_⟩
            · have := (((boxed_set (R' := (R : Int)) (d' := 0) (A' := A3) (n' := m + 1) (c' := c3) (HBX.out.below HB3.out)).grown (World.grownBy_alloc _ _ none) (by simp)).grown HG4.out ?_)
              · simpa using this
              · intro h; have := hu7 _ h.symm; omega
            · rw [take_snoc l m hlt]
              refine Txt.grown (Txt.below (Txt.set (Txt.set (Txt.set HTX3.out ?_ _) ?_ _) ?_ _) ((Below.refl _ _).alloc (Nat.le_refl _) _)) HG4.out ?_
              all_goals intro ad' had'; have h9 := HD3.out ad' had'
              · simp; omega
              · simp; omega
              · simp; omega
              · intro h; have := hu7' _ h.symm; omega
            · intro ad' had'
              have h9 := HD3.out ad' had'
              refine ⟨by omega, ?_⟩
              obtain ⟨ad2, h10, h11⟩ := HTX3.out m l[m] (by rw [← take_snoc l m hlt]; simp)
              have h12 := World.block_lt_of_cell? _ _ h11
              rw [add_block] at h12
              rw [had'] at h10
              obtain rfl := Option.some.inj h10
              rcases HV4.out with h | ⟨b, h, hb⟩
              · rw [h]; intro h; have := hu7' _ h.symm; omega
              · rw [h]; intro h; obtain rfl := Option.some.inj h; omega
            · have := HO4.out
              rw [take_snoc l m hlt, List.map_append]
              simpa [HL.out] using this
            · refine Below.grown (Below.alloc (Below.setCell (Below.setCell (Below.setCell (HBL.out.trans (HB3.out.mono hsz)) ?_ _) ?_ _) ?_ _) ?_ _) HG4.out ?_ ?_
              all_goals try simp
              any_goals omega
              intro k hk; have := hu7 k hk; omega
          case measure => simp [intOf]; omega
      · have hmR : m = R := by omega
        have hd : IntKind.u64.wrap (((k - m : Nat) : Int) + 1) = ((k + 1 - m : Nat) : Int) := by rw [IntKind.wrap_u64]; omega
        have HM := Aside0.mk hm
        have HMR := Aside0.mk hmR
        have HD := Aside0.mk hd
        clear hm hd hmR
        go_wp2_with fail
        refine (put_over R ((k - m : Nat) : Int) ((k + 1 - m : Nat) : Int) A' m c' l[k] wr (by have := HMR.out; omega) (by omega) HD.out).mono ?_
        rintro e w3 ⟨rfl, hb3⟩
        have HB3 := Aside0.mk hb3
        have hz3 := hb3.size
        have hlt3 : w2.heap.size < w3.heap.size := by omega
        obtain ⟨q0, q1, q2, f0, f1, f2⟩ := HBX.out.below hb3
        clear hb3
        go_wp2
        go_roundw
        case rel =>
          have hk1 : m = min (k + 1) R := by have := HM.out; have := HMR.out; omega
          refine ⟨k + 1, m, A', c', hlt, hk1, by go_num, ?_, ?_, hc', HA'.out, HD'.out, ?_, ?_⟩
          · exact (boxed_set (R' := (R : Int)) (d' := ((k + 1 - m : Nat) : Int)) (A' := A') (n' := m) (c' := c') (HBX.out.below HB3.out)).grown (World.grownBy_alloc _ _ none) (by simp)
          · refine Txt.below (Txt.set (Txt.set (Txt.set (HTX.out.below HB3.out) ?_ _) ?_ _) ?_ _) ((Below.refl _ _).alloc (Nat.le_refl _) _)
            all_goals intro ad' had'; have h9 := (HD'.out ad' had').1; simp; omega
          · exact (ownsRow_setCell_below (ownsRow_setCell_below (ownsRow_setCell_below (pw_own_below HO.out HB3.out) (by simp) _) (by simp) _) (by simp) _).alloc _
          · refine Below.alloc (Below.setCell (Below.setCell (Below.setCell (HBL.out.trans (HB3.out.mono hsz)) ?_ _) ?_ _) ?_ _) ?_ _
            all_goals try simp
            all_goals omega
        case measure => simp [intOf]; omega
    · obtain rfl : k = l.length := by omega
      obtain ⟨A7, c7, rfl, hc7, ht7, _, hd7⟩ := own_txt HO.out
      have HD7 := Aside0.mk hd7
      have hlen : (l.take m).length = m := by simp; omega
      rw [hlen] at hc7
      have HL := Aside0.mk hlen
      have HT7 := Aside0.mk ht7
      have HM := Aside0.mk hm
      clear ht7 hlen hm hd7
      simp only [HL.out]
      go_wp2_with fail
      clear q0 q1 q2 f0 f1 f2
      go_loopw [58] (fun i ws => Rel2 w w2.heap.size R (l.length - m) A7 (l.take m) i ws) (fun i _ => m - (intOf i).toNat)
      case atStart =>
        exact ⟨0, A', c', Nat.zero_le _, rfl, by rw [HL.out]; exact HBX.out, by simpa using HTX.out, by rw [HL.out]; exact hc', fun ad h => (HD'.out ad h).1, HT7.out, HBL.out⟩
      case round =>
        obtain ⟨j, A2, c2, hj, rfl, hbx, htx, hc2, hd2, ht8, hbel⟩ := hrel
        have hlt4 := hbx.lt
        rw [HL.out] at hj hc2 hbx
        have HTX2 := Aside0.mk htx
        have HT8 := Aside0.mk ht8
        have HD2 := Aside0.mk hd2
        have HBL2 := Aside0.mk hbel
        have HBX2 := Aside0.mk hbx
        obtain ⟨q0, q1, q2, f0, f1, f2⟩ := hbx
        have hsz2 := hbel.size
        clear htx hd2 hbel ht8
        have hm100 : m ≤ 100 := by have := HM.out; omega
        by_cases hlt : j < m
        · have hjl : j < (l.take m).length := by rw [HL.out]; exact hlt
          obtain ⟨ad7, rfl, hx⟩ := HT8.out j (l.take m)[j] (List.getElem?_eq_getElem hjl)
          have hdr : (l.take m).drop j = (l.take m)[j] :: (l.take m).drop (j + 1) := List.drop_eq_getElem_cons hjl
          have HDR := Aside0.mk hdr
          clear hdr
          generalize hX : (l.take m)[j] = X at hx HDR
          clear hX
          have HX := Aside0.mk hx
          go_wp2_with fail
          refine (take_at R ((l.length - m : Nat) : Int) A2 (m - j) c2 X ((l.take m).drop (j + 1)) _ ?_ ?_ hc2 ?_).mono ?_
          · rw [List.length_drop, HL.out]; omega
          · rw [List.length_drop, HL.out]; omega
          · rw [← HDR.out]; exact HTX2.out
          rintro e w3 ⟨A3, c3, rfl, hc3, hA3, ht3, hb3, hd3⟩
          have HTX3 := Aside0.mk ht3
          have HA3 := Aside0.mk hA3
          have HD3 := Aside0.mk hd3
          have HB3 := Aside0.mk hb3
          have hz3 := hb3.size
          have hlt3 : w2.heap.size < w3.heap.size := by omega
          obtain ⟨q0, q1, q2, f0, f1, f2⟩ := HBX2.out.below hb3
          clear ht3 hA3 hd3 hb3
          go_wp2
          go_roundw
          case rel =>
            refine ⟨j + 1, A3, c3, by rw [HL.out]; omega, by go_num, ?_, ?_, ?_, ?_, ?_, ?_⟩
            · have := (boxed_set (R' := (R : Int)) (d' := ((l.length - m : Nat) : Int)) (A' := A3) (n' := m - j - 1) (c' := c3) (HBX2.out.below HB3.out)).grown (World.grownBy_alloc _ (Obj.cells #[.int .i64 R, .slice A3 (m - j - 1) c3, .int .u64 ((l.length - m : Nat) : Int)] 26) none) (by simp)
              rw [HL.out, show m - (j + 1) = m - j - 1 from by omega]
              exact this
            · refine Txt.below (Txt.set (Txt.set (Txt.set HTX3.out ?_ _) ?_ _) ?_ _) ((Below.refl _ _).alloc (Nat.le_refl _) _)
              all_goals intro ad' had'; obtain ⟨ad2, h2, h3⟩ := HD3.out ad' had'; have h9 := HD2.out ad2 h2; simp; omega
            · rw [HL.out]; omega
            · intro ad' had'; obtain ⟨ad2, h2, h3⟩ := HD3.out ad' had'; have h9 := HD2.out ad2 h2; omega
            · refine Txt.below (Txt.set (Txt.set (Txt.set (HT8.out.below HB3.out) ?_ _) ?_ _) ?_ _) ((Below.refl _ _).alloc (Nat.le_refl _) _)
              all_goals intro ad' had'; have h9 := HD7.out ad' had'; simp; omega
            · refine Below.alloc (Below.setCell (Below.setCell (Below.setCell (HBL2.out.trans (HB3.out.mono hsz2)) ?_ _) ?_ _) ?_ _) ?_ _
              all_goals try simp
              all_goals omega
          case measure => simp [intOf]; omega
        · obtain rfl : j = m := by omega
          have hw : wrap64 ((l.length : Int) - (j : Int)) = ((l.length - j : Nat) : Int) := by
            have := HM.out
            unfold wrap64; omega
          have hR := HR.out
          go_wp2
          all_goals
            go_ret
            refine ⟨?_, (HBL2.out.alloc hsz2 _).alloc (by simp; omega) _⟩
            have := HM.out
            first
              | (exfalso; omega)
              | (refine ret_bool (a := ((j : Int) == (R : Int))) ?_; rw [beq_iff_eq]; omega)
              | (refine ret_bool (a := ((j : Int) == (l.length : Int))) ?_; rw [beq_iff_eq]; omega)

set_option maxHeartbeats 1000000 in
theorem order_long (r : Int) (h0 : 0 ≤ r) (h1 : r ≤ 255) (A : Option Addr) (n c : Nat) (w : World) (hn : 100 < n) (hm : n ≤ 9223372036854775807) :
    Calls Try.prog 3 #[.int .u8 r, .slice A n c] w fun e w' => e = .returned (.bool true) ∧ Below w.heap.size w w' := by
  have hu26 := Try.underlying26
  go_enter Try.func3, Try.ntmps3
  go_wp2_with (first | (go_at_call 11; refine (awake_any _).mono ?_; rintro e w1 ⟨rfl, hb1⟩; have HB1 := Aside0.mk hb1; clear hb1) | (go_at_call 12; refine (new_good _ _ (by omega) (by omega)).mono ?_; rintro e w2 ⟨rfl, hb2⟩; have HB2 := Aside0.mk hb2; have hz2 := hb2.size; clear hb2))
  go_ret
  exact ⟨rfl, (HB1.out.trans (HB2.out.mono HB1.out.size)).alloc (Nat.le_trans HB1.out.size HB2.out.size) _⟩

theorem order_walk (r : Int) (A : Option Addr) (l : List ByteArray) (c : Nat) (w : World) (hr : (Lit.int .u8 r).wf = true) (ht : Txt w A l) (hm : l.length ≤ maxLen) (_ : l.length ≤ c) (_ : A = none → c = 0) :
    Calls Try.prog 3 #[.int .u8 r, .slice A l.length c] w fun e w' => e = .returned (.bool true) ∧ Below w.heap.size w w' := by
  have := Own.wfu8 hr
  unfold maxLen at hm
  by_cases hl : l.length ≤ 100
  · exact order_short r (by omega) (by omega) A l c w hl ht
  · exact order_long r (by omega) (by omega) A l.length c w (by omega) (by omega)
end Go.Proofs.Ytihhclgjjgakpaa.Inbox
