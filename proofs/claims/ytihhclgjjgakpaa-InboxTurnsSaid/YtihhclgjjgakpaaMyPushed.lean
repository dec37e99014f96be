/- InboxPushed: the walk of the law. No conditions but the reach of the arguments. -/
import Derived.Test.YtihhclgjjgakpaaMyPush
import Derived.Deep.RegionWith
namespace Go.Proofs.Ytihhclgjjgakpaa.Inbox
open Go.RowKit Go.Proofs.YtihhclgjjgakpaaW.PrintWords Go.Proofs.YtihhclgjjgakpaaW.PrintLast Go.Proofs.YtihhclgjjgakpaaW.PrintMore

theorem Txt.take {w : World} {A : Option Addr} {l : List ByteArray} (h : Txt w A l) (m : Nat) : Txt w A (l.take m) := by
  intro i s hi
  have hm : i < m := by
    have := (List.getElem?_eq_some_iff.1 hi).1
    simp at this; omega
  rw [List.getElem?_take_of_lt hm] at hi
  exact h i s hi

theorem equal_same (A1 A2 : Option Addr) (n1 n2 c1 c2 : Nat) (l : List ByteArray) (w : World) (e1 : l.length = n1) (e2 : l.length = n2) (h1 : l.length ≤ 1000000) (hc1 : l.length ≤ c1) (hc2 : l.length ≤ c2) (t1 : Txt w A1 l) (t2 : Txt w A2 l) :
    Calls Try.prog 27 #[.slice A1 n1 c1, .slice A2 n2 c2] w fun e w' => e = .returned (.bool true) ∧ Drawn0 w w' :=
  (equal_any A1 A2 n1 n2 c1 c2 l l w e1 e2 h1 h1 hc1 hc2 t1 t2).mono fun e w' ⟨h, h'⟩ => ⟨by rw [h]; simp, h'⟩

def PushAt (room d : Int) (l : List ByteArray) (n : Nat) (w : World) (e : Ending) (w' : World) : Prop :=
  ∃ A' c', e = .returned (.agg #[.int .i64 room, .slice A' n c', .int .u64 d]) ∧ n ≤ c' ∧ (A' = none → c' = 0) ∧ Txt w' A' l ∧ Below w.heap.size w w' ∧ ∀ ad, A' = some ad → w.heap.size ≤ ad.block
theorem push_at (room d : Int) (A : Option Addr) (n c : Nat) (x : ByteArray) (l : List ByteArray) (w : World) (hn : l.length = n) (hl : n ≤ 1000000) (ht : Txt w A l) :
    Calls Try.prog 29 #[.agg #[.int .i64 room, .slice A n c, .int .u64 d], .string x] w (PushAt room d (x :: l) (n + 1) w) := by
  subst hn
  exact (push_any room d A c x l w hl ht).mono fun e w' h => h

def Put1 (w0 : World) (g R : Nat) (l : List ByteArray) (n i : Value) (wr : World) : Prop :=
  ∃ k m : Nat, k ≤ l.length ∧ m = min k R ∧ i = .int .i64 (k : Int) ∧ n = .int .i64 (m : Int) ∧ Has wr g R (k - m) (l.take m) ∧ Below w0.heap.size w0 wr

def Push1 (w0 : World) (g R d : Nat) (q l : List ByteArray) (i : Value) (wr : World) : Prop :=
  ∃ k : Nat, k ≤ l.length ∧ i = .int .i64 (k : Int) ∧ Has wr g R d ((l.take k).reverse ++ q) ∧ Below w0.heap.size w0 wr

def Take1 (w0 : World) (g R d : Nat) (q l : List ByteArray) (i : Value) (wr : World) : Prop :=
  ∃ k : Nat, k ≤ l.length ∧ i = .int .i64 ((k : Int) - 1) ∧ Has wr g R d ((l.take k).reverse ++ q) ∧ Below w0.heap.size w0 wr

set_option maxHeartbeats 2000000 in
theorem pushed_short (r : Int) (h0 : 0 ≤ r) (h1 : r ≤ 255) (A B : Option Addr) (l p : List ByteArray) (c c' : Nat) (w : World) (hl : l.length ≤ 40) (hp : p.length ≤ 40) (hlc : l.length ≤ c) (ht : Txt w A l) (hu : Txt w B p) :
    Calls Try.prog 8 #[.int .u8 r, .slice A l.length c, .slice B p.length c'] w fun e w' => e = .returned (.bool true) ∧ Below w.heap.size w w' := by
  have hu26 := Try.underlying26
  obtain ⟨R, hR⟩ : ∃ R : Nat, 1 + r % 64 = R := ⟨(1 + r % 64).toNat, by omega⟩
  have hR1 : 1 ≤ R := by omega
  have hR2 : R ≤ 64 := by omega
  have HR := Aside0.mk hR
  clear hR
  have HT := Aside0.mk ht
  have HU := Aside0.mk hu
  clear ht hu
  go_enter Try.func8, Try.ntmps8
  go_wp2_with (first | (go_at_call 11; refine (awake_any _).mono ?_; rintro e w1 ⟨rfl, hb1⟩; have HB1 := Aside0.mk hb1; clear hb1) | (go_at_call 12; refine (new_at r R _ HR.out hR1 hR2).mono ?_; rintro e w2 ⟨rfl, hb2⟩; have HB2 := Aside0.mk (HB1.out.trans (hb2.mono HB1.out.size)); have hz2 := hb2.size; clear hb2))
  have hw2 : w.heap.size ≤ w2.heap.size := HB2.out.size
  generalize hG : w2.heap.size = G at *
  go_loopw [9, 46] (fun n i wr => Put1 w G R l n i wr) (fun _ i _ => l.length - (intOf i).toNat)
  case atStart =>
    subst hG
    exact ⟨0, 0, Nat.zero_le _, by simp, rfl, rfl, by simpa using has_new w2 R, HB2.out.alloc hw2 _⟩
  case round =>
    obtain ⟨k, m, hk, hm, rfl, rfl, hhas, hbel⟩ := hrel
    have HH := Aside0.mk hhas
    have HBL := Aside0.mk hbel
    have hlt2 := hhas.lt
    have hsz := hbel.size
    by_cases hlt : k < l.length
    · obtain ⟨A', c3, hbx, htx, hc', hA', hd'⟩ := hhas
      have hlen : (l.take m).length = m := by simp; omega
      rw [hlen] at hbx hc'
      have HBX := Aside0.mk hbx
      obtain ⟨q0, q1, q2, f0, f1, f2⟩ := hbx
      obtain ⟨ad, rfl, hx0⟩ := HT.out k l[k] (List.getElem?_eq_getElem hlt)
      have hx := pw_cell_below HBL.out hx0
      have HTX := Aside0.mk htx
      have HA' := Aside0.mk hA'
      have HD' := Aside0.mk hd'
      have HL := Aside0.mk hlen
      clear htx hA' hd' hlen hx0 hbel
      by_cases hfit : k < R
      · obtain rfl : m = k := by omega
        have HM := Aside0.mk hm
        clear hm
        go_wp2_with fail
        refine (put_at R 0 A' (l.take m) m c3 l[m] wr HL.out (by omega) (by omega) hc' HA'.out HTX.out).mono ?_
        rintro e w3 ⟨A3, c4, rfl, hc3, hA3, ht3, hb3, hd3⟩
        have HTX3 := Aside0.mk ht3
        have HA3 := Aside0.mk hA3
        have HD3 := Aside0.mk hd3
        have HB3 := Aside0.mk hb3
        have hz3 := hb3.size
        have hlt3 : G < w3.heap.size := by omega
        obtain ⟨q0, q1, q2, f0, f1, f2⟩ := HBX.out.below hb3
        clear ht3 hA3 hd3 hb3
        go_wp2
        go_roundw
        case rel =>
          refine ⟨m + 1, m + 1, hlt, by have := HM.out; omega, by go_num, by go_num, ?_, ?_⟩
          · have hn : (l.take m ++ [l[m]]).length = m + 1 := by rw [List.length_append, HL.out]; rfl
            have := (has_stored (R := R) (d' := 0) (HBX.out.below HB3.out) HTX3.out (by rw [hn]; exact hc3) HA3.out (fun ad h => by have := HD3.out ad h; omega)).below ((Below.refl _ _).alloc (Nat.le_refl _) (Obj.cells #[.int .i64 (R : Int), .slice A3 (m + 1) c4, .int .u64 0] 26))
            rw [hn] at this
            rw [take_snoc l m hlt, Nat.sub_self]
            exact this
          · refine Below.alloc (Below.setCell (Below.setCell (Below.setCell (HBL.out.trans (HB3.out.mono hsz)) ?_ _) ?_ _) ?_ _) ?_ _
            all_goals try simp
            all_goals omega
        case measure => simp [intOf]; omega
      · have hmR : m = R := by omega
        have hd : IntKind.u64.wrap (((k - m : Nat) : Int) + 1) = ((k + 1 - m : Nat) : Int) := by rw [IntKind.wrap_u64]; omega
        have HM := Aside0.mk hm
        have HMR := Aside0.mk hmR
        have HD := Aside0.mk hd
        clear hm hd hmR
        go_wp2_with fail
        refine (put_over R ((k - m : Nat) : Int) ((k + 1 - m : Nat) : Int) A' m c3 l[k] wr (by have := HMR.out; omega) (by have := HMR.out; omega) HD.out).mono ?_
        rintro e w3 ⟨rfl, hb3⟩
        have HB3 := Aside0.mk hb3
        have hz3 := hb3.size
        have hlt3 : G < w3.heap.size := by omega
        obtain ⟨q0, q1, q2, f0, f1, f2⟩ := HBX.out.below hb3
        clear hb3
        go_wp2
        go_roundw
        case rel =>
          have hk1 : m = min (k + 1) R := by have := HM.out; have := HMR.out; omega
          refine ⟨k + 1, m, hlt, hk1, by go_num, rfl, ?_, ?_⟩
          · have := (has_stored (R := R) (d' := k + 1 - m) (HBX.out.below HB3.out) (HTX.out.below HB3.out) (by rw [HL.out]; exact hc') HA'.out (fun ad h => HD'.out ad h)).below ((Below.refl _ _).alloc (Nat.le_refl _) (Obj.cells #[.int .i64 (R : Int), .slice A' m c3, .int .u64 ((k + 1 - m : Nat) : Int)] 26))
            rw [HL.out] at this
            exact this
          · refine Below.alloc (Below.setCell (Below.setCell (Below.setCell (HBL.out.trans (HB3.out.mono hsz)) ?_ _) ?_ _) ?_ _) ?_ _
            all_goals try simp
            all_goals omega
        case measure => simp [intOf]; omega
    · obtain rfl : k = l.length := by omega
      have hml : m ≤ l.length := by omega
      have HM := Aside0.mk hm
      clear hhas hbel hm
      go_wp2_with fail
      go_loopw [64] (fun i ws => Push1 w G R (l.length - m) (l.take m) p i ws) (fun i _ => p.length - (intOf i).toNat)
      case atStart => exact ⟨0, Nat.zero_le _, rfl, by simpa using HH.out, HBL.out⟩
      case round =>
        obtain ⟨k, hk, rfl, hhas, hbel⟩ := hrel
        have HH2 := Aside0.mk hhas
        have HBL2 := Aside0.mk hbel
        have hlt4 := hhas.lt
        have hsz2 := hbel.size
        have hq : (l.take m).length = m := by simp; omega
        have HQ := Aside0.mk hq
        clear hq
        obtain ⟨A', c3, hbx, htx, hc', hA', hd'⟩ := hhas
        have hlen : ((p.take k).reverse ++ l.take m).length = k + m := by rw [List.length_append, HQ.out, List.length_reverse, List.length_take]; omega
        rw [hlen] at hbx hc'
        have HBX := Aside0.mk hbx
        obtain ⟨q0, q1, q2, f0, f1, f2⟩ := hbx
        have HTX := Aside0.mk htx
        have HD' := Aside0.mk hd'
        have HL := Aside0.mk hlen
        clear htx hA' hd' hlen hbel
        by_cases hlt : k < p.length
        · obtain ⟨ad, rfl, hx0⟩ := HU.out k p[k] (List.getElem?_eq_getElem hlt)
          have hx := pw_cell_below HBL2.out hx0
          clear hx0
          go_wp2_with fail
          refine (push_at R ((l.length - m : Nat) : Int) A' (k + m) c3 p[k] ((p.take k).reverse ++ l.take m) _ HL.out (by omega) HTX.out).mono ?_
          rintro e w3 ⟨A3, c4, rfl, hc3, hA3, ht3, hb3, hd3⟩
          have HTX3 := Aside0.mk ht3
          have HC3 := Aside0.mk hc3
          have HA3 := Aside0.mk hA3
          have HD3 := Aside0.mk hd3
          have HB3 := Aside0.mk hb3
          have hz3 := hb3.size
          have hlt3 : G < w3.heap.size := by omega
          obtain ⟨q0, q1, q2, f0, f1, f2⟩ := HBX.out.below hb3
          clear ht3 hA3 hd3 hb3 hc3
          go_wp2
          go_roundw
          case rel =>
            refine ⟨k + 1, hlt, by go_num, ?_, ?_⟩
            · have hn : (p[k] :: ((p.take k).reverse ++ l.take m)).length = k + m + 1 := by rw [List.length_cons, HL.out]
              have := has_stored (R := R) (d' := l.length - m) (HBX.out.below HB3.out) HTX3.out (by rw [hn]; exact HC3.out) HA3.out (fun ad h => by have := HD3.out ad h; omega)
              rw [hn] at this
              rw [take_snoc p k hlt, List.reverse_append]
              exact this
            · refine Below.setCell (Below.setCell (Below.setCell (HBL2.out.trans (HB3.out.mono hsz2)) ?_ _) ?_ _) ?_ _
              all_goals try simp
              all_goals omega
          case measure => simp [intOf]; omega
        · obtain rfl : k = p.length := by omega
          have hpk : (m : Int) + (p.length : Int) = ((p.length + m : Nat) : Int) := by omega
          go_wp2_with fail
          refine (len_any R ((l.length - m : Nat) : Int) A' (p.length + m) c3 _).mono ?_
          rintro e w3 ⟨rfl, hb3⟩
          have HB3 := Aside0.mk (HBL2.out.trans (hb3.mono hsz2))
          have HH3 := Aside0.mk (HH2.out.below hb3)
          have hz3 := hb3.size
          clear hb3 q0 q1 q2 f0 f1 f2
          go_wp2
          go_loopw [16] (fun i wt => Take1 w G R (l.length - m) (l.take m) p i wt) (fun i _ => (intOf i + 1).toNat)
          case atStart => exact ⟨p.length, Nat.le_refl _, rfl, HH3.out, HB3.out⟩
          case round =>
            obtain ⟨k, hk, rfl, hhas, hbel⟩ := hrel
            have HH4 := Aside0.mk hhas
            have HBL4 := Aside0.mk hbel
            have hlt5 := hhas.lt
            have hsz4 := hbel.size
            obtain ⟨A5, c5, hbx, htx, hc5, hA5, hd5⟩ := hhas
            have hlen : ((p.take k).reverse ++ l.take m).length = k + m := by rw [List.length_append, HQ.out, List.length_reverse, List.length_take]; omega
            rw [hlen] at hbx hc5
            have HBX4 := Aside0.mk hbx
            obtain ⟨q0, q1, q2, f0, f1, f2⟩ := hbx
            have HTX4 := Aside0.mk htx
            have HD5 := Aside0.mk hd5
            have HL4 := Aside0.mk hlen
            clear htx hA5 hd5 hlen hbel
            rcases Nat.eq_zero_or_pos k with rfl | hk0
            · rw [show ((0 : Nat) : Int) - 1 = -1 from rfl]
              have hqq : (l.take m).length = m := HQ.out
              simp only [Nat.zero_add] at hc5 q1
              go_wp2_with fail
              have HTM : Aside0 (Txt wr A5 (l.take m)) := Aside0.mk (by simpa using HTX4.out)
              have HAM : Aside0 (Txt wr A (l.take m)) := Aside0.mk ((HT.out.below HBL4.out).take m)
              have HC := Aside0.mk hlc
              go_region_with (first | (go_at_call 32; refine (all_any R ((l.length - m : Nat) : Int) A5 m c5 (l.take m) _ HQ.out (by rw [HQ.out]; omega) (by exact HTM.out)).mono ?_; rintro e w9 ⟨A9, c9, rfl, k1, k2, k3⟩; have K1 := Aside0.mk k1; have K2 := Aside0.mk k2; have K3 : Aside0 (Below wr.heap.size wr w9) := Aside0.mk ⟨k3.os, k3.tape, k3.output, k3.size, k3.block⟩; clear k1 k2 k3; simp only [HQ.out]) | (go_at_call 27; refine (equal_same A9 A m m c9 c (l.take m) _ HQ.out HQ.out (by rw [HQ.out]; omega) (by exact K1.out) (by rw [HQ.out]; omega) (by exact K2.out) (by exact HAM.out.below K3.out)).mono ?_; rintro e w10 ⟨rfl, k4⟩; have K4 := Aside0.mk k4; clear k4))
              all_goals
                go_wp2
                go_ret
                exact ⟨rfl, (HBL4.out.trans (K3.out.mono hsz4)).trans (K4.out.below.mono (Nat.le_trans hsz4 K3.out.size))⟩
            · obtain ⟨j, rfl⟩ : ∃ j, k = j + 1 := ⟨k - 1, by omega⟩
              rw [show ((j + 1 : Nat) : Int) - 1 = (j : Int) from by omega]
              have hj : j < p.length := by omega
              have hcons : (p.take (j + 1)).reverse ++ l.take m = p[j] :: ((p.take j).reverse ++ l.take m) := by rw [take_snoc p j hj, List.reverse_append]; rfl
              have HC := Aside0.mk hcons
              clear hcons
              obtain ⟨ad, rfl, hx0⟩ := HU.out j p[j] (List.getElem?_eq_getElem hj)
              have HX0 := Aside0.mk hx0
              clear hx0
              generalize hX : p[j] = X at HC HX0
              clear hX
              go_wp2_with fail
              refine (take_at R ((l.length - m : Nat) : Int) A5 (j + 1 + m) c5 X ((p.take j).reverse ++ l.take m) _ ?_ ?_ hc5 ?_).mono ?_
              · have := HL4.out; rw [HC.out, List.length_cons] at this; omega
              · have := HL4.out; rw [HC.out, List.length_cons] at this; omega
              · rw [← HC.out]; exact HTX4.out
              rintro e w5 ⟨A6, c6, rfl, hc6, hA6, ht6, hb6, hd6⟩
              have HTX6 := Aside0.mk ht6
              have HC6 := Aside0.mk hc6
              have HA6 := Aside0.mk hA6
              have HD6 := Aside0.mk hd6
              have HB6 := Aside0.mk hb6
              have hz6 := hb6.size
              have hlt6 : G < w5.heap.size := by omega
              have hx := pw_cell_below (HBL4.out.trans (hb6.mono hsz4)) HX0.out
              obtain ⟨q0, q1, q2, f0, f1, f2⟩ := HBX4.out.below hb6
              clear ht6 hA6 hd6 hb6 hc6
              have had : (ad.add j).block < w5.heap.size := World.block_lt_of_cell? _ _ hx
              have hne : (ad.add j).block ≠ G := by have := World.block_lt_of_cell? _ _ HX0.out; omega
              have n0 : (⟨G, 0, none⟩ : Addr) ≠ ad.add j := fun h => hne (by rw [← h])
              have n1 : (⟨G, 1, none⟩ : Addr) ≠ ad.add j := fun h => hne (by rw [← h])
              have n2 : (⟨G, 2, none⟩ : Addr) ≠ ad.add j := fun h => hne (by rw [← h])
              clear hne
              go_wp2
              go_roundw
              case rel =>
                refine ⟨j, by omega, rfl, ?_, ?_⟩
                · have hn : ((p.take j).reverse ++ l.take m).length = j + m := by have := HL4.out; rw [HC.out, List.length_cons] at this; omega
                  have := (has_stored (R := R) (d' := l.length - m) (HBX4.out.below HB6.out) HTX6.out (by rw [hn]; have := HC6.out; omega) HA6.out (fun ad h => by obtain ⟨ad2, h2, h3⟩ := HD6.out ad h; have := HD5.out ad2 h2; omega)).below ((Below.refl _ _).alloc (Nat.le_refl _) (Obj.cells #[.int .i64 (R : Int), .slice A6 (j + m) c6, .int .u64 ((l.length - m : Nat) : Int)] 26))
                  rw [hn] at this
                  exact this
                · refine Below.alloc (Below.setCell (Below.setCell (Below.setCell (HBL4.out.trans (HB6.out.mono hsz4)) ?_ _) ?_ _) ?_ _) ?_ _
                  all_goals try simp
                  all_goals omega
              case measure => simp [intOf]

set_option maxHeartbeats 1000000 in
theorem pushed_long (r : Int) (h0 : 0 ≤ r) (h1 : r ≤ 255) (A B : Option Addr) (n p c c' : Nat) (w : World) (hn : 40 < n ∨ 40 < p) (hm : n ≤ 9223372036854775807) (hm' : p ≤ 9223372036854775807) :
    Calls Try.prog 8 #[.int .u8 r, .slice A n c, .slice B p c'] w fun e w' => e = .returned (.bool true) ∧ Below w.heap.size w w' := by
  have hu26 := Try.underlying26
  by_cases h : 40 < n
  all_goals
    go_enter Try.func8, Try.ntmps8
    go_wp2_with (first | (go_at_call 11; refine (awake_any _).mono ?_; rintro e w1 ⟨rfl, hb1⟩; have HB1 := Aside0.mk hb1; clear hb1) | (go_at_call 12; refine (new_good _ _ (by omega) (by omega)).mono ?_; rintro e w2 ⟨rfl, hb2⟩; have HB2 := Aside0.mk hb2; have hz2 := hb2.size; clear hb2))
    first
      | (go_ret; exact ⟨rfl, (HB1.out.trans (HB2.out.mono HB1.out.size)).alloc (Nat.le_trans HB1.out.size HB2.out.size) _⟩)
      | (exfalso; omega)

theorem pushed_walk (r : Int) (A : Option Addr) (l : List ByteArray) (c : Nat) (B : Option Addr) (p : List ByteArray) (c' : Nat) (w : World) (hr : (Lit.int .u8 r).wf = true)
    (ht : Txt w A l) (hm : l.length ≤ maxLen) (hlc : l.length ≤ c) (_ : A = none → c = 0) (hu : Txt w B p) (hm' : p.length ≤ maxLen) (_ : p.length ≤ c') (_ : B = none → c' = 0) :
    Calls Try.prog 8 #[.int .u8 r, .slice A l.length c, .slice B p.length c'] w fun e w' => e = .returned (.bool true) ∧ Below w.heap.size w w' := by
  have := Own.wfu8 hr
  unfold maxLen at hm hm'
  by_cases hl : l.length ≤ 40 ∧ p.length ≤ 40
  · exact pushed_short r (by omega) (by omega) A B l p c c' w hl.1 hl.2 hlc ht hu
  · exact pushed_long r (by omega) (by omega) A B l.length p.length c c' w (by omega) (by omega) (by omega)
end Go.Proofs.Ytihhclgjjgakpaa.Inbox
