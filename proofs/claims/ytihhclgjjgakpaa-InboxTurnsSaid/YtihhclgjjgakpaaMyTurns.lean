/- InboxTurns: the walk of the law. No conditions but the reach of the argument. -/
import Derived.Test.YtihhclgjjgakpaaMyPushed
import Derived.Test.YtihhclgjjgakpaaMyRef
namespace Go.Proofs.Ytihhclgjjgakpaa.Inbox
open Go.RowKit Go.Proofs.YtihhclgjjgakpaaW.PrintWords Go.Proofs.YtihhclgjjgakpaaW.PrintLast Go.Proofs.YtihhclgjjgakpaaW.PrintMore

set_option linter.unusedSimpArgs false
set_option linter.unusedVariables false
/-- A row of turns: what to do, and the text. -/
def Acts (w : World) (A : Option Addr) (l : List (Int × ByteArray)) : Prop :=
  ∀ i d s, l[i]? = some (d, s) → ∃ ad, A = some ad ∧ w.cell? (ad.add (i * 2)) = some (.int .u8 d) ∧ w.cell? (ad.add (i * 2 + 1)) = some (.string s) ∧ 0 ≤ d ∧ d ≤ 255

theorem add_next (ad : Addr) (m : Nat) : ad.add (m + 1) = ⟨(ad.add m).block, (ad.add m).off + 1, none⟩ := by
  unfold Addr.add
  by_cases h : m = 0
  · subst h; simp
  · simp [h, Nat.add_assoc]

/-- The length, under a name. -/
def LenIs (q : List ByteArray) (n : Nat) : Prop := q.length = n
theorem lenIs {q : List ByteArray} {n : Nat} (h : LenIs q n) : q.length = n := h

/-- Behind k turns. -/
def Turn1 (w0 : World) (g R n : Nat) (v7 v8 i : Value) (wr : World) : Prop :=
  ∃ (k d : Nat) (q : List ByteArray) (A7 : Option Addr) (c7 : Nat), k ≤ n ∧ d ≤ k ∧ q.length ≤ 64 + k ∧ v7 = .slice A7 q.length c7 ∧ v8 = .int .u64 (d : Int) ∧ i = .int .i64 (k : Int) ∧
    q.length ≤ c7 ∧ Txt wr A7 q ∧ (∀ ad, A7 = some ad → g < ad.block) ∧ Has wr g R d q ∧ Below w0.heap.size w0 wr

set_option maxRecDepth 30000 in
set_option maxHeartbeats 12000000 in
theorem turns_short (r : Int) (h1 : 1 ≤ r) (h2 : r ≤ 64) (A : Option Addr) (l : List (Int × ByteArray)) (c : Nat) (w : World) (hl : l.length ≤ 120) (ht : Acts w A l) :
    Calls Try.prog 7 #[.int .i64 r, .slice A l.length c] w fun e w' => e = .returned (.bool true) ∧ Below w.heap.size w w' := by
  have hu26 := Try.underlying26
  obtain ⟨R, hR⟩ : ∃ R : Nat, r = (R : Int) := ⟨r.toNat, by omega⟩
  subst hR
  have HT := Aside0.mk ht
  clear ht
  go_enter Try.func7, Try.ntmps7
  have g1 : ¬ (R : Int) < 1 := by omega
  have g2 : ¬ (64 : Int) < (R : Int) := by omega
  have G1 := Aside0.mk h1
  have G2 := Aside0.mk h2
  clear h1 h2
  go_wp2_with (first | (go_at_call 11; refine (awake_any _).mono ?_; rintro e w1 ⟨rfl, hb1⟩; have HB1 := Aside0.mk hb1; clear hb1) | (go_at_call 12; refine (new_good R _ G1.out G2.out).mono ?_; rintro e w2 ⟨rfl, hb2⟩; have HB2 := Aside0.mk (HB1.out.trans (hb2.mono HB1.out.size)); have hz2 := hb2.size; clear hb2))
  have hw2 : w.heap.size ≤ w2.heap.size := HB2.out.size
  generalize hG : w2.heap.size = G at *
  have hl' : (l.length : Int) ≤ 120 := by omega
  go_loopw [7, 8, 47] (fun v7 v8 i wr => Turn1 w G R l.length v7 v8 i wr) (fun _ _ i _ => l.length - (intOf i).toNat)
  case atStart =>
    subst hG
    exact ⟨0, 0, [], none, 0, Nat.zero_le _, Nat.zero_le _, Nat.zero_le _, rfl, rfl, rfl, Nat.le_refl _, fun i s hi => by simp at hi, by simp, has_new w2 R, HB2.out.alloc hw2 _⟩
  case round =>
    obtain ⟨k, d, q, A7, c7, hk, hd, hq, rfl, rfl, rfl, hc7, ht7, hg7, hhas, hbel⟩ := hrel
    have HBL := Aside0.mk hbel
    have T7 := Aside0.mk ht7
    have HG7 := Aside0.mk hg7
    have HC7 := Aside0.mk hc7
    have HQ := Aside0.mk hq
    have HDK := Aside0.mk hd
    have hlt2 := hhas.lt
    have hsz := hbel.size
    clear hg7 hc7 hq hd ht7
    by_cases hlt : k < l.length
    · obtain ⟨A', c3, hbx, htx, hc', hA', hd'⟩ := hhas
      have BX := Aside0.mk hbx
      obtain ⟨q0, q1, q2, f0, f1, f2⟩ := hbx
      obtain ⟨D, X, hDX⟩ : ∃ D X, l[k] = (D, X) := ⟨_, _, rfl⟩
      obtain ⟨ad, rfl, hx0, hx1, hD0, hD1⟩ := HT.out k D X (by rw [← hDX]; exact List.getElem?_eq_getElem hlt)
      have hx := pw_cell_below HBL.out hx0
      have hy := pw_cell_below HBL.out hx1
      rw [add_next] at hy
      have TX := Aside0.mk htx
      have HA' := Aside0.mk hA'
      have HD' := Aside0.mk hd'
      have HC' := Aside0.mk hc'
      have hdo : (D % 4 == 2) = true ∨ ((D % 4 == 2) = false ∧ (D % 4 == 3) = true) ∨ ((D % 4 == 2) = false ∧ (D % 4 == 3) = false) := by cases (D % 4 == 2) <;> cases (D % 4 == 3) <;> simp
      obtain ⟨d1, hd1⟩ : ∃ d1 : Nat, d1 = d + 1 := ⟨_, rfl⟩
      have HD1 := Aside0.mk hd1
      have hwr : IntKind.u64.wrap ((d : Int) + 1) = (d1 : Int) := by have := HDK.out; rw [IntKind.wrap_u64]; omega
      clear hd1
      clear htx hA' hd' hx0 hx1 hbel hc' hDX
      rcases hdo with hd2 | ⟨hd2, hd3⟩ | ⟨hd2, hd3⟩
      · go_wp2_with fail
        have HW1 : Aside0 (Below wr.heap.size wr ((wr.alloc (Obj.cells #[.int .u8 D, .string X] 52)).alloc (Obj.cells #[.int .i64 (R : Int), .slice A' q.length c3, .int .u64 (d : Int)] 26))) := Aside0.mk (((Below.refl _ _).alloc (Nat.le_refl _) _).alloc (by simp) _)
        have WX : Aside0 (Boxed ((wr.alloc (Obj.cells #[.int .u8 D, .string X] 52)).alloc (Obj.cells #[.int .i64 (R : Int), .slice A' q.length c3, .int .u64 (d : Int)] 26)) (wr.heap.size + 1) (R : Int) (d : Int) A' q.length c3) := Aside0.mk (by simpa using boxed_new (w := wr.alloc (Obj.cells #[.int .u8 D, .string X] 52)) (R := (R : Int)) (d := (d : Int)) (A := A') (n := q.length) (c := c3))
        have ax : (((wr.alloc (Obj.cells #[.int .u8 D, .string X] 52)).alloc (Obj.cells #[.int .i64 (R : Int), .slice A' q.length c3, .int .u64 (d : Int)] 26))).cell? ⟨wr.heap.size, 1, none⟩ = some (.string X) := by go_simp
        have AX := Aside0.mk ax
        have hz1 : (((wr.alloc (Obj.cells #[.int .u8 D, .string X] 52)).alloc (Obj.cells #[.int .i64 (R : Int), .slice A' q.length c3, .int .u64 (d : Int)] 26))).heap.size = wr.heap.size + 1 + 1 := by simp
        clear q0 q1 q2 f0 f1 f2
        replace BX := Aside0.mk (BX.out.below HW1.out)
        have TW := Aside0.mk (TX.out.below HW1.out)
        have T12 := Aside0.mk (T7.out.below HW1.out)
        replace T7 := T12
        have TQ := TW
        replace HBL := Aside0.mk (HBL.out.trans (HW1.out.mono HBL.out.size))
        obtain ⟨q0, q1, q2, f0, f1, f2⟩ := BX.out
        obtain ⟨p0, p1, p2, g0, g1, g2⟩ := WX.out
        have HM0 : Aside0 (q.length ≤ 1000000) := Aside0.mk (by have := HQ.out; omega)
        have HM : Aside0 (q.length + 1 ≤ 1000000) := Aside0.mk (by have := HQ.out; omega)
        have CUR := Aside0.mk ((Below.refl (((wr.alloc (Obj.cells #[.int .u8 D, .string X] 52)).alloc (Obj.cells #[.int .i64 (R : Int), .slice A' q.length c3, .int .u64 (d : Int)] 26))).heap.size ((wr.alloc (Obj.cells #[.int .u8 D, .string X] 52)).alloc (Obj.cells #[.int .i64 (R : Int), .slice A' q.length c3, .int .u64 (d : Int)] 26))).drew)
        have hGW : G < (((wr.alloc (Obj.cells #[.int .u8 D, .string X] 52)).alloc (Obj.cells #[.int .i64 (R : Int), .slice A' q.length c3, .int .u64 (d : Int)] 26))).heap.size := BX.out.lt
        go_region_with (first | (go_at_call 29; refine (push_at R (d : Int) A' q.length c3 X q _ rfl HM0.out (by exact TQ.out.below CUR.out)).mono ?_; rintro e w3 ⟨A3, c4, rfl, hc3, hA3, ht3, hb3, hd3⟩; have HCN := Aside0.mk hc3; have HAN := Aside0.mk hA3; have HDN : Aside0 (∀ ad, A3 = some ad → G < ad.block) := Aside0.mk (fun ad h => Nat.lt_of_lt_of_le (Nat.lt_of_lt_of_le hGW CUR.out.size) (hd3 ad h)); replace CUR := Aside0.mk (CUR.out.trans (hb3.mono CUR.out.size)); have TN := Aside0.mk ht3; (try replace TM := Aside0.mk (TM.out.below hb3)); clear hc3 hA3 ht3 hb3 hd3; obtain ⟨q0, q1, q2, f0, f1, f2⟩ := (BX.out.below CUR.out); obtain ⟨p0, p1, p2, g0, g1, g2⟩ := (WX.out.below CUR.out); have ax := ((CUR.out).cell (World.block_lt_of_cell? _ _ AX.out)).trans AX.out; have e1 := (BX.out.below CUR.out).lt; have e2 := (WX.out.below CUR.out).lt; have e3 := Nat.lt_of_succ_lt e2) | (go_at_call 30; refine (rpush_any A7 q.length c7 X q _ rfl HM0.out (by exact T7.out.below CUR.out)).mono ?_; rintro e w4 ⟨A8, c8, rfl, hc8, ht8, hb8, hd8⟩; have HC7N := Aside0.mk hc8; have HG7N : Aside0 (∀ ad, A8 = some ad → G < ad.block) := Aside0.mk (fun ad h => Nat.lt_of_lt_of_le (Nat.lt_of_lt_of_le hGW CUR.out.size) (hd8 ad h)); replace CUR := Aside0.mk (CUR.out.trans (hb8.mono CUR.out.size)); have TM := Aside0.mk ht8; (try replace TN := Aside0.mk (TN.out.below hb8)); clear hc8 ht8 hb8 hd8; obtain ⟨q0, q1, q2, f0, f1, f2⟩ := (BX.out.below CUR.out); obtain ⟨p0, p1, p2, g0, g1, g2⟩ := (WX.out.below CUR.out); have ax := ((CUR.out).cell (World.block_lt_of_cell? _ _ AX.out)).trans AX.out; have e1 := (BX.out.below CUR.out).lt; have e2 := (WX.out.below CUR.out).lt; have e3 := Nat.lt_of_succ_lt e2))
        all_goals
          have HN : LenIs (X :: q) (q.length + 1) := rfl
          replace BX := Aside0.mk (BX.out.below CUR.out)
          replace WX := Aside0.mk (WX.out.below CUR.out)
          replace TW := Aside0.mk (TW.out.below CUR.out)
          replace T12 := Aside0.mk (T12.out.below CUR.out)
          replace T7 := TM
          replace TQ := TN
          replace HBL := Aside0.mk (HBL.out.trans (CUR.out.mono HBL.out.size))
          go_wp2_with fail
          have HAS := Aside0.mk (has_stored (R := R) (d' := d) BX.out TQ.out (by rw [lenIs HN]; exact HCN.out) HAN.out HDN.out)
          rw [lenIs HN] at HAS
          replace BX := Aside0.mk (boxed_set (R' := (R : Int)) (d' := ((d : Nat) : Int)) (A' := A3) (n' := q.length + 1) (c' := c4) BX.out)
          replace WX := Aside0.mk (WX.out.aside (g := G) (by omega) (.int .i64 (R : Int)) (.slice A3 (q.length + 1) c4) (.int .u64 ((d : Nat) : Int)))
          replace T7 := Aside0.mk (T7.out.aside (g := G) HG7N.out (.int .i64 (R : Int)) (.slice A3 (q.length + 1) c4) (.int .u64 ((d : Nat) : Int)))
          replace TW := Aside0.mk (TW.out.aside (g := G) HD'.out (.int .i64 (R : Int)) (.slice A3 (q.length + 1) c4) (.int .u64 ((d : Nat) : Int)))
          replace T12 := Aside0.mk (T12.out.aside (g := G) HG7.out (.int .i64 (R : Int)) (.slice A3 (q.length + 1) c4) (.int .u64 ((d : Nat) : Int)))
          replace TQ := Aside0.mk (TQ.out.aside (g := G) HDN.out (.int .i64 (R : Int)) (.slice A3 (q.length + 1) c4) (.int .u64 ((d : Nat) : Int)))
          replace HBL := Aside0.mk (below_aside (g := G) HBL.out hw2 (.int .i64 (R : Int)) (.slice A3 (q.length + 1) c4) (.int .u64 ((d : Nat) : Int)))
          refine (all_any R ((d : Nat) : Int) A3 (q.length + 1) c4 (X :: q) _ (lenIs HN) (by rw [lenIs HN]; exact HM.out) TQ.out).mono ?_
          rintro e w5 ⟨A5, c5, rfl, k1, k2, k3⟩
          simp only [lenIs HN]
          have K1 := Aside0.mk k1
          have K2 := Aside0.mk k2
          clear k1 k2
          clear q0 q1 q2 f0 f1 f2 p0 p1 p2 g0 g1 g2
          replace BX := Aside0.mk (BX.out.below k3)
          replace WX := Aside0.mk (WX.out.below k3)
          replace T7 := Aside0.mk (T7.out.below k3)
          replace TW := Aside0.mk (TW.out.below k3)
          replace T12 := Aside0.mk (T12.out.below k3)
          replace TQ := Aside0.mk (TQ.out.below k3)
          replace HAS := Aside0.mk (HAS.out.below k3)
          have hzz := (k3).size
          replace HBL := Aside0.mk (HBL.out.trans ((k3).mono HBL.out.size))
          obtain ⟨q0, q1, q2, f0, f1, f2⟩ := BX.out
          obtain ⟨p0, p1, p2, g0, g1, g2⟩ := WX.out
          have e1 := BX.out.lt
          have e2 := WX.out.lt
          have e3 := Nat.lt_of_succ_lt e2
          clear k3
          go_wp2_with fail
          refine (equal_same A5 A8 (q.length + 1) (q.length + 1) c5 c8 (X :: q) _ (lenIs HN) (lenIs HN) (by rw [lenIs HN]; exact HM.out) K1.out (by rw [lenIs HN]; exact HC7N.out) K2.out T7.out).mono ?_
          rintro e w6 ⟨rfl, k4⟩
          clear q0 q1 q2 f0 f1 f2 p0 p1 p2 g0 g1 g2
          replace BX := Aside0.mk (BX.out.below k4.below)
          replace WX := Aside0.mk (WX.out.below k4.below)
          replace T7 := Aside0.mk (T7.out.below k4.below)
          replace TW := Aside0.mk (TW.out.below k4.below)
          replace T12 := Aside0.mk (T12.out.below k4.below)
          replace TQ := Aside0.mk (TQ.out.below k4.below)
          replace HAS := Aside0.mk (HAS.out.below k4.below)
          have hzz := (k4.below).size
          replace HBL := Aside0.mk (HBL.out.trans ((k4.below).mono HBL.out.size))
          obtain ⟨q0, q1, q2, f0, f1, f2⟩ := BX.out
          obtain ⟨p0, p1, p2, g0, g1, g2⟩ := WX.out
          have e1 := BX.out.lt
          have e2 := WX.out.lt
          have e3 := Nat.lt_of_succ_lt e2
          clear k4
          go_wp2_with fail
          refine (len_any R ((d : Nat) : Int) A3 (q.length + 1) c4 _).mono ?_
          rintro e w7 ⟨rfl, k5⟩
          clear q0 q1 q2 f0 f1 f2 p0 p1 p2 g0 g1 g2
          replace BX := Aside0.mk (BX.out.below k5)
          replace WX := Aside0.mk (WX.out.below k5)
          replace T7 := Aside0.mk (T7.out.below k5)
          replace TW := Aside0.mk (TW.out.below k5)
          replace T12 := Aside0.mk (T12.out.below k5)
          replace TQ := Aside0.mk (TQ.out.below k5)
          replace HAS := Aside0.mk (HAS.out.below k5)
          have hzz := (k5).size
          replace HBL := Aside0.mk (HBL.out.trans ((k5).mono HBL.out.size))
          obtain ⟨q0, q1, q2, f0, f1, f2⟩ := BX.out
          obtain ⟨p0, p1, p2, g0, g1, g2⟩ := WX.out
          have e1 := BX.out.lt
          have e2 := WX.out.lt
          have e3 := Nat.lt_of_succ_lt e2
          clear k5
          go_wp2_with fail
          refine (dropped_any R ((d : Nat) : Int) A3 (q.length + 1) c4 _).mono ?_
          rintro e w8 ⟨rfl, k6⟩
          clear q0 q1 q2 f0 f1 f2 p0 p1 p2 g0 g1 g2
          replace BX := Aside0.mk (BX.out.below k6)
          replace WX := Aside0.mk (WX.out.below k6)
          replace T7 := Aside0.mk (T7.out.below k6)
          replace TW := Aside0.mk (TW.out.below k6)
          replace T12 := Aside0.mk (T12.out.below k6)
          replace TQ := Aside0.mk (TQ.out.below k6)
          replace HAS := Aside0.mk (HAS.out.below k6)
          have hzz := (k6).size
          replace HBL := Aside0.mk (HBL.out.trans ((k6).mono HBL.out.size))
          obtain ⟨q0, q1, q2, f0, f1, f2⟩ := BX.out
          obtain ⟨p0, p1, p2, g0, g1, g2⟩ := WX.out
          have e1 := BX.out.lt
          have e2 := WX.out.lt
          have e3 := Nat.lt_of_succ_lt e2
          clear k6
          go_wp2_with fail
          refine (all_any R ((d : Nat) : Int) A' (q.length) c3 (q) _ rfl HM0.out TW.out).mono ?_
          rintro e w9 ⟨A9, c9, rfl, k1, k2, k7⟩
          try simp only [List.length_cons, List.length_nil]
          have L1 := Aside0.mk k1
          have L2 := Aside0.mk k2
          clear k1 k2
          clear q0 q1 q2 f0 f1 f2 p0 p1 p2 g0 g1 g2
          replace BX := Aside0.mk (BX.out.below k7)
          replace WX := Aside0.mk (WX.out.below k7)
          replace T7 := Aside0.mk (T7.out.below k7)
          replace TW := Aside0.mk (TW.out.below k7)
          replace T12 := Aside0.mk (T12.out.below k7)
          replace TQ := Aside0.mk (TQ.out.below k7)
          replace HAS := Aside0.mk (HAS.out.below k7)
          have hzz := (k7).size
          replace HBL := Aside0.mk (HBL.out.trans ((k7).mono HBL.out.size))
          obtain ⟨q0, q1, q2, f0, f1, f2⟩ := BX.out
          obtain ⟨p0, p1, p2, g0, g1, g2⟩ := WX.out
          have e1 := BX.out.lt
          have e2 := WX.out.lt
          have e3 := Nat.lt_of_succ_lt e2
          clear k7
          go_wp2_with fail
          refine (equal_same A9 A7 (q.length) (q.length) c9 c7 (q) _ rfl rfl HM0.out L1.out HC7.out L2.out T12.out).mono ?_
          rintro e w10 ⟨rfl, k8⟩
          clear q0 q1 q2 f0 f1 f2 p0 p1 p2 g0 g1 g2
          replace BX := Aside0.mk (BX.out.below k8.below)
          replace WX := Aside0.mk (WX.out.below k8.below)
          replace T7 := Aside0.mk (T7.out.below k8.below)
          replace TW := Aside0.mk (TW.out.below k8.below)
          replace T12 := Aside0.mk (T12.out.below k8.below)
          replace TQ := Aside0.mk (TQ.out.below k8.below)
          replace HAS := Aside0.mk (HAS.out.below k8.below)
          have hzz := (k8.below).size
          replace HBL := Aside0.mk (HBL.out.trans ((k8.below).mono HBL.out.size))
          obtain ⟨q0, q1, q2, f0, f1, f2⟩ := BX.out
          obtain ⟨p0, p1, p2, g0, g1, g2⟩ := WX.out
          have e1 := BX.out.lt
          have e2 := WX.out.lt
          have e3 := Nat.lt_of_succ_lt e2
          clear k8
          go_wp2
          go_roundw
          case rel =>
            exact ⟨k + 1, d, X :: q, A8, c8, hlt, by have := HDK.out; have := HD1.out; omega, by rw [lenIs HN]; have := HQ.out; omega, by rw [lenIs HN], rfl, by go_num, by rw [lenIs HN]; exact HC7N.out, T7.out, HG7N.out, HAS.out, HBL.out⟩
          case measure => simp [intOf]; omega
      · rcases Nat.eq_zero_or_pos q.length with hq0 | hq0
        · obtain rfl := List.eq_nil_of_length_eq_zero hq0
          simp only [List.length_nil] at q1 BX HC7 HC' HQ ⊢
          have HM0 : Aside0 (([] : List ByteArray).length ≤ 1000000) := Aside0.mk (Nat.zero_le _)
          have HM : Aside0 (0 ≤ 1000000) := Aside0.mk (Nat.zero_le _)
          have HN : LenIs [] 0 := rfl
          have HCN := HC'
          have HAN := HA'
          have HDN := HD'
          have HG7N := HG7
          have HC7N := HC7
          go_wp2_with fail
          have HW1 : Aside0 (Below wr.heap.size wr ((wr.alloc (Obj.cells #[.int .u8 D, .string X] 52)).alloc (Obj.cells #[.int .i64 (R : Int), .slice A' 0 c3, .int .u64 (d : Int)] 26))) := Aside0.mk (((Below.refl _ _).alloc (Nat.le_refl _) _).alloc (by simp) _)
          have WX : Aside0 (Boxed ((wr.alloc (Obj.cells #[.int .u8 D, .string X] 52)).alloc (Obj.cells #[.int .i64 (R : Int), .slice A' 0 c3, .int .u64 (d : Int)] 26)) (wr.heap.size + 1) (R : Int) (d : Int) A' 0 c3) := Aside0.mk (by simpa using boxed_new (w := wr.alloc (Obj.cells #[.int .u8 D, .string X] 52)) (R := (R : Int)) (d := (d : Int)) (A := A') (n := 0) (c := c3))
          have ax : (((wr.alloc (Obj.cells #[.int .u8 D, .string X] 52)).alloc (Obj.cells #[.int .i64 (R : Int), .slice A' 0 c3, .int .u64 (d : Int)] 26))).cell? ⟨wr.heap.size, 1, none⟩ = some (.string X) := by go_simp
          have AX := Aside0.mk ax
          have hz1 : (((wr.alloc (Obj.cells #[.int .u8 D, .string X] 52)).alloc (Obj.cells #[.int .i64 (R : Int), .slice A' 0 c3, .int .u64 (d : Int)] 26))).heap.size = wr.heap.size + 1 + 1 := by simp
          clear q0 q1 q2 f0 f1 f2
          replace BX := Aside0.mk (BX.out.below HW1.out)
          have TW := Aside0.mk (TX.out.below HW1.out)
          have T12 := Aside0.mk (T7.out.below HW1.out)
          replace T7 := T12
          have TQ := TW
          replace HBL := Aside0.mk (HBL.out.trans (HW1.out.mono HBL.out.size))
          obtain ⟨q0, q1, q2, f0, f1, f2⟩ := BX.out
          obtain ⟨p0, p1, p2, g0, g1, g2⟩ := WX.out
          refine (take_none R (d : Int) A' c3 _).mono ?_
          rintro e w3 ⟨rfl, hb3⟩
          clear q0 q1 q2 f0 f1 f2 p0 p1 p2 g0 g1 g2
          replace BX := Aside0.mk (BX.out.below hb3)
          replace WX := Aside0.mk (WX.out.below hb3)
          replace T7 := Aside0.mk (T7.out.below hb3)
          replace TW := Aside0.mk (TW.out.below hb3)
          replace T12 := Aside0.mk (T12.out.below hb3)
          replace TQ := Aside0.mk (TQ.out.below hb3)
          have hzz := (hb3).size
          replace HBL := Aside0.mk (HBL.out.trans ((hb3).mono HBL.out.size))
          obtain ⟨q0, q1, q2, f0, f1, f2⟩ := BX.out
          obtain ⟨p0, p1, p2, g0, g1, g2⟩ := WX.out
          have e1 := BX.out.lt
          have e2 := WX.out.lt
          have e3 := Nat.lt_of_succ_lt e2
          clear hb3
          have ha : ∀ W : World, Below W.heap.size W (W.alloc (Obj.cells #[.int .i64 (R : Int), .slice A' (0) c3, .int .u64 ((d : Nat) : Int)] 26)) := fun W => (Below.refl _ _).alloc (Nat.le_refl _) _
          have HA := Aside0.mk ha
          clear ha
          go_wp2_with fail
          have HAS := Aside0.mk (has_stored (R := R) (d' := d) BX.out TQ.out (by rw [lenIs HN]; exact HCN.out) HAN.out HDN.out)
          rw [lenIs HN] at HAS
          replace BX := Aside0.mk (boxed_set (R' := (R : Int)) (d' := ((d : Nat) : Int)) (A' := A') (n' := 0) (c' := c3) BX.out)
          replace WX := Aside0.mk (WX.out.aside (g := G) (by omega) (.int .i64 (R : Int)) (.slice A' (0) c3) (.int .u64 ((d : Nat) : Int)))
          replace T7 := Aside0.mk (T7.out.aside (g := G) HG7N.out (.int .i64 (R : Int)) (.slice A' (0) c3) (.int .u64 ((d : Nat) : Int)))
          replace TW := Aside0.mk (TW.out.aside (g := G) HD'.out (.int .i64 (R : Int)) (.slice A' (0) c3) (.int .u64 ((d : Nat) : Int)))
          replace T12 := Aside0.mk (T12.out.aside (g := G) HG7.out (.int .i64 (R : Int)) (.slice A' (0) c3) (.int .u64 ((d : Nat) : Int)))
          replace TQ := Aside0.mk (TQ.out.aside (g := G) HDN.out (.int .i64 (R : Int)) (.slice A' (0) c3) (.int .u64 ((d : Nat) : Int)))
          replace HBL := Aside0.mk (below_aside (g := G) HBL.out hw2 (.int .i64 (R : Int)) (.slice A' (0) c3) (.int .u64 ((d : Nat) : Int)))
          have hb4 := HA.out (((w3.setCell ⟨G, 0, none⟩ (.int .i64 (R : Int))).setCell ⟨G, 1, none⟩ (.slice A' (0) c3)).setCell ⟨G, 2, none⟩ (.int .u64 ((d : Nat) : Int)))
          replace BX := Aside0.mk (BX.out.below hb4)
          replace WX := Aside0.mk (WX.out.below hb4)
          replace T7 := Aside0.mk (T7.out.below hb4)
          replace TW := Aside0.mk (TW.out.below hb4)
          replace T12 := Aside0.mk (T12.out.below hb4)
          replace TQ := Aside0.mk (TQ.out.below hb4)
          replace HAS := Aside0.mk (HAS.out.below hb4)
          replace HBL := Aside0.mk (HBL.out.trans (hb4.mono HBL.out.size))
          clear hb4
          refine (all_any R ((d : Nat) : Int) A' (0) c3 (([] : List ByteArray)) _ (lenIs HN) (by rw [lenIs HN]; exact HM.out) TQ.out).mono ?_
          rintro e w5 ⟨A5, c5, rfl, k1, k2, k3⟩
          simp only [lenIs HN]
          have K1 := Aside0.mk k1
          have K2 := Aside0.mk k2
          clear k1 k2
          clear q0 q1 q2 f0 f1 f2 p0 p1 p2 g0 g1 g2
          replace BX := Aside0.mk (BX.out.below k3)
          replace WX := Aside0.mk (WX.out.below k3)
          replace T7 := Aside0.mk (T7.out.below k3)
          replace TW := Aside0.mk (TW.out.below k3)
          replace T12 := Aside0.mk (T12.out.below k3)
          replace TQ := Aside0.mk (TQ.out.below k3)
          replace HAS := Aside0.mk (HAS.out.below k3)
          have hzz := (k3).size
          replace HBL := Aside0.mk (HBL.out.trans ((k3).mono HBL.out.size))
          obtain ⟨q0, q1, q2, f0, f1, f2⟩ := BX.out
          obtain ⟨p0, p1, p2, g0, g1, g2⟩ := WX.out
          have e1 := BX.out.lt
          have e2 := WX.out.lt
          have e3 := Nat.lt_of_succ_lt e2
          clear k3
          go_wp2_with fail
          refine (equal_same A5 A7 (0) (0) c5 c7 (([] : List ByteArray)) _ (lenIs HN) (lenIs HN) (by rw [lenIs HN]; exact HM.out) K1.out (by rw [lenIs HN]; exact HC7N.out) K2.out T7.out).mono ?_
          rintro e w6 ⟨rfl, k4⟩
          clear q0 q1 q2 f0 f1 f2 p0 p1 p2 g0 g1 g2
          replace BX := Aside0.mk (BX.out.below k4.below)
          replace WX := Aside0.mk (WX.out.below k4.below)
          replace T7 := Aside0.mk (T7.out.below k4.below)
          replace TW := Aside0.mk (TW.out.below k4.below)
          replace T12 := Aside0.mk (T12.out.below k4.below)
          replace TQ := Aside0.mk (TQ.out.below k4.below)
          replace HAS := Aside0.mk (HAS.out.below k4.below)
          have hzz := (k4.below).size
          replace HBL := Aside0.mk (HBL.out.trans ((k4.below).mono HBL.out.size))
          obtain ⟨q0, q1, q2, f0, f1, f2⟩ := BX.out
          obtain ⟨p0, p1, p2, g0, g1, g2⟩ := WX.out
          have e1 := BX.out.lt
          have e2 := WX.out.lt
          have e3 := Nat.lt_of_succ_lt e2
          clear k4
          go_wp2_with fail
          refine (len_any R ((d : Nat) : Int) A' (0) c3 _).mono ?_
          rintro e w7 ⟨rfl, k5⟩
          clear q0 q1 q2 f0 f1 f2 p0 p1 p2 g0 g1 g2
          replace BX := Aside0.mk (BX.out.below k5)
          replace WX := Aside0.mk (WX.out.below k5)
          replace T7 := Aside0.mk (T7.out.below k5)
          replace TW := Aside0.mk (TW.out.below k5)
          replace T12 := Aside0.mk (T12.out.below k5)
          replace TQ := Aside0.mk (TQ.out.below k5)
          replace HAS := Aside0.mk (HAS.out.below k5)
          have hzz := (k5).size
          replace HBL := Aside0.mk (HBL.out.trans ((k5).mono HBL.out.size))
          obtain ⟨q0, q1, q2, f0, f1, f2⟩ := BX.out
          obtain ⟨p0, p1, p2, g0, g1, g2⟩ := WX.out
          have e1 := BX.out.lt
          have e2 := WX.out.lt
          have e3 := Nat.lt_of_succ_lt e2
          clear k5
          go_wp2_with fail
          refine (dropped_any R ((d : Nat) : Int) A' (0) c3 _).mono ?_
          rintro e w8 ⟨rfl, k6⟩
          clear q0 q1 q2 f0 f1 f2 p0 p1 p2 g0 g1 g2
          replace BX := Aside0.mk (BX.out.below k6)
          replace WX := Aside0.mk (WX.out.below k6)
          replace T7 := Aside0.mk (T7.out.below k6)
          replace TW := Aside0.mk (TW.out.below k6)
          replace T12 := Aside0.mk (T12.out.below k6)
          replace TQ := Aside0.mk (TQ.out.below k6)
          replace HAS := Aside0.mk (HAS.out.below k6)
          have hzz := (k6).size
          replace HBL := Aside0.mk (HBL.out.trans ((k6).mono HBL.out.size))
          obtain ⟨q0, q1, q2, f0, f1, f2⟩ := BX.out
          obtain ⟨p0, p1, p2, g0, g1, g2⟩ := WX.out
          have e1 := BX.out.lt
          have e2 := WX.out.lt
          have e3 := Nat.lt_of_succ_lt e2
          clear k6
          go_wp2_with fail
          refine (all_any R ((d : Nat) : Int) A' (0) c3 (([] : List ByteArray)) _ rfl HM0.out TW.out).mono ?_
          rintro e w9 ⟨A9, c9, rfl, k1, k2, k7⟩
          try simp only [List.length_cons, List.length_nil]
          have L1 := Aside0.mk k1
          have L2 := Aside0.mk k2
          clear k1 k2
          clear q0 q1 q2 f0 f1 f2 p0 p1 p2 g0 g1 g2
          replace BX := Aside0.mk (BX.out.below k7)
          replace WX := Aside0.mk (WX.out.below k7)
          replace T7 := Aside0.mk (T7.out.below k7)
          replace TW := Aside0.mk (TW.out.below k7)
          replace T12 := Aside0.mk (T12.out.below k7)
          replace TQ := Aside0.mk (TQ.out.below k7)
          replace HAS := Aside0.mk (HAS.out.below k7)
          have hzz := (k7).size
          replace HBL := Aside0.mk (HBL.out.trans ((k7).mono HBL.out.size))
          obtain ⟨q0, q1, q2, f0, f1, f2⟩ := BX.out
          obtain ⟨p0, p1, p2, g0, g1, g2⟩ := WX.out
          have e1 := BX.out.lt
          have e2 := WX.out.lt
          have e3 := Nat.lt_of_succ_lt e2
          clear k7
          go_wp2_with fail
          refine (equal_same A9 A7 (0) (0) c9 c7 (([] : List ByteArray)) _ rfl rfl HM0.out L1.out HC7.out L2.out T12.out).mono ?_
          rintro e w10 ⟨rfl, k8⟩
          clear q0 q1 q2 f0 f1 f2 p0 p1 p2 g0 g1 g2
          replace BX := Aside0.mk (BX.out.below k8.below)
          replace WX := Aside0.mk (WX.out.below k8.below)
          replace T7 := Aside0.mk (T7.out.below k8.below)
          replace TW := Aside0.mk (TW.out.below k8.below)
          replace T12 := Aside0.mk (T12.out.below k8.below)
          replace TQ := Aside0.mk (TQ.out.below k8.below)
          replace HAS := Aside0.mk (HAS.out.below k8.below)
          have hzz := (k8.below).size
          replace HBL := Aside0.mk (HBL.out.trans ((k8.below).mono HBL.out.size))
          obtain ⟨q0, q1, q2, f0, f1, f2⟩ := BX.out
          obtain ⟨p0, p1, p2, g0, g1, g2⟩ := WX.out
          have e1 := BX.out.lt
          have e2 := WX.out.lt
          have e3 := Nat.lt_of_succ_lt e2
          clear k8
          go_wp2
          go_roundw
          case rel =>
            exact ⟨k + 1, d, ([] : List ByteArray), A7, c7, hlt, by have := HDK.out; have := HD1.out; omega, by rw [lenIs HN]; have := HQ.out; omega, by rw [lenIs HN], rfl, by go_num, by rw [lenIs HN]; exact HC7N.out, T7.out, HG7N.out, HAS.out, HBL.out⟩
          case measure => simp [intOf]; omega
        · obtain ⟨x, q', rfl⟩ : ∃ x q', q = x :: q' := by
            cases q with
            | nil => simp at hq0
            | cons x q' => exact ⟨x, q', rfl⟩
          clear hq0
          simp only [List.length_cons] at q1 BX HC7 HC' HQ ⊢
          obtain ⟨ad7, rfl, hz0⟩ := T7.out 0 x rfl
          have YX : Aside0 (wr.cell? ad7 = some (.string x)) := Aside0.mk hz0
          clear hz0
          have HM0 : Aside0 ((x :: q').length ≤ 1000000) := Aside0.mk (by have := HQ.out; simp only [List.length_cons]; omega)
          have HM : Aside0 (q'.length ≤ 1000000) := Aside0.mk (by have := HQ.out; omega)
          go_wp2_with fail
          have HW1 : Aside0 (Below wr.heap.size wr ((wr.alloc (Obj.cells #[.int .u8 D, .string X] 52)).alloc (Obj.cells #[.int .i64 (R : Int), .slice A' (q'.length + 1) c3, .int .u64 (d : Int)] 26))) := Aside0.mk (((Below.refl _ _).alloc (Nat.le_refl _) _).alloc (by simp) _)
          have WX : Aside0 (Boxed ((wr.alloc (Obj.cells #[.int .u8 D, .string X] 52)).alloc (Obj.cells #[.int .i64 (R : Int), .slice A' (q'.length + 1) c3, .int .u64 (d : Int)] 26)) (wr.heap.size + 1) (R : Int) (d : Int) A' (q'.length + 1) c3) := Aside0.mk (by simpa using boxed_new (w := wr.alloc (Obj.cells #[.int .u8 D, .string X] 52)) (R := (R : Int)) (d := (d : Int)) (A := A') (n := (q'.length + 1)) (c := c3))
          have ax : (((wr.alloc (Obj.cells #[.int .u8 D, .string X] 52)).alloc (Obj.cells #[.int .i64 (R : Int), .slice A' (q'.length + 1) c3, .int .u64 (d : Int)] 26))).cell? ⟨wr.heap.size, 1, none⟩ = some (.string X) := by go_simp
          have AX := Aside0.mk ax
          have hz1 : (((wr.alloc (Obj.cells #[.int .u8 D, .string X] 52)).alloc (Obj.cells #[.int .i64 (R : Int), .slice A' (q'.length + 1) c3, .int .u64 (d : Int)] 26))).heap.size = wr.heap.size + 1 + 1 := by simp
          clear q0 q1 q2 f0 f1 f2
          replace BX := Aside0.mk (BX.out.below HW1.out)
          have TW := Aside0.mk (TX.out.below HW1.out)
          have T12 := Aside0.mk (T7.out.below HW1.out)
          replace T7 := T12
          have TQ := TW
          replace HBL := Aside0.mk (HBL.out.trans (HW1.out.mono HBL.out.size))
          obtain ⟨q0, q1, q2, f0, f1, f2⟩ := BX.out
          obtain ⟨p0, p1, p2, g0, g1, g2⟩ := WX.out
          replace YX := Aside0.mk ((HW1.out.cell (World.block_lt_of_cell? _ _ YX.out)).trans YX.out)
          refine (take_some R (d : Int) A' c3 x q' _ (by have := HQ.out; omega) HC'.out TQ.out).mono ?_
          rintro e w3 ⟨A3, c4, rfl, hc3, hA3, ht3, hb3, hd3⟩
          have HCN := Aside0.mk hc3
          have HAN := Aside0.mk hA3
          have HDN : Aside0 (∀ ad, A3 = some ad → G < ad.block) := Aside0.mk (fun ad h => by obtain ⟨ad2, h2, h3⟩ := hd3 ad h; have := HD'.out ad2 h2; omega)
          clear hc3 hA3 hd3
          clear q0 q1 q2 f0 f1 f2 p0 p1 p2 g0 g1 g2
          replace BX := Aside0.mk (BX.out.below hb3)
          replace WX := Aside0.mk (WX.out.below hb3)
          replace T7 := Aside0.mk (T7.out.below hb3)
          replace TW := Aside0.mk (TW.out.below hb3)
          replace T12 := Aside0.mk (T12.out.below hb3)
          replace TQ := Aside0.mk (TQ.out.below hb3)
          have hzz := (hb3).size
          replace HBL := Aside0.mk (HBL.out.trans ((hb3).mono HBL.out.size))
          obtain ⟨q0, q1, q2, f0, f1, f2⟩ := BX.out
          obtain ⟨p0, p1, p2, g0, g1, g2⟩ := WX.out
          have e1 := BX.out.lt
          have e2 := WX.out.lt
          have e3 := Nat.lt_of_succ_lt e2
          replace TQ := Aside0.mk ht3
          have yx : w3.cell? ad7 = some (.string x) := (hb3.cell (World.block_lt_of_cell? _ _ YX.out)).trans YX.out
          have yy := World.block_lt_of_cell? _ _ yx
          clear ht3 hb3
          have ha : ∀ W : World, Below W.heap.size W (W.alloc (Obj.cells #[.int .i64 (R : Int), .slice A3 (q'.length) c4, .int .u64 ((d : Nat) : Int)] 26)) := fun W => (Below.refl _ _).alloc (Nat.le_refl _) _
          have HA := Aside0.mk ha
          clear ha
          have HC7L := HC7.out
          go_wp2_with fail
          · obtain rfl : q' = [] := List.eq_nil_of_length_eq_zero (by omega)
            obtain rfl : c7 = 1 := by omega
            simp only [List.length_nil, Nat.zero_add] at *
            have HG7N := HG7
            have HC7N : Aside0 (0 ≤ 0) := Aside0.mk (Nat.le_refl 0)
            have HN : LenIs [] 0 := rfl
            replace T7 : Aside0 (Txt w3 (some ad7) []) := Aside0.mk (fun i s hi => by simp at hi)
            have HAS := Aside0.mk (has_stored (R := R) (d' := d) BX.out TQ.out (by rw [lenIs HN]; exact HCN.out) HAN.out HDN.out)
            rw [lenIs HN] at HAS
            replace BX := Aside0.mk (boxed_set (R' := (R : Int)) (d' := ((d : Nat) : Int)) (A' := A3) (n' := 0) (c' := c4) BX.out)
            replace WX := Aside0.mk (WX.out.aside (g := G) (by omega) (.int .i64 (R : Int)) (.slice A3 (0) c4) (.int .u64 ((d : Nat) : Int)))
            replace T7 := Aside0.mk (T7.out.aside (g := G) HG7N.out (.int .i64 (R : Int)) (.slice A3 (0) c4) (.int .u64 ((d : Nat) : Int)))
            replace TW := Aside0.mk (TW.out.aside (g := G) HD'.out (.int .i64 (R : Int)) (.slice A3 (0) c4) (.int .u64 ((d : Nat) : Int)))
            replace T12 := Aside0.mk (T12.out.aside (g := G) HG7.out (.int .i64 (R : Int)) (.slice A3 (0) c4) (.int .u64 ((d : Nat) : Int)))
            replace TQ := Aside0.mk (TQ.out.aside (g := G) HDN.out (.int .i64 (R : Int)) (.slice A3 (0) c4) (.int .u64 ((d : Nat) : Int)))
            replace HBL := Aside0.mk (below_aside (g := G) HBL.out hw2 (.int .i64 (R : Int)) (.slice A3 (0) c4) (.int .u64 ((d : Nat) : Int)))
            have hb4 := HA.out (((w3.setCell ⟨G, 0, none⟩ (.int .i64 (R : Int))).setCell ⟨G, 1, none⟩ (.slice A3 (0) c4)).setCell ⟨G, 2, none⟩ (.int .u64 ((d : Nat) : Int)))
            replace BX := Aside0.mk (BX.out.below hb4)
            replace WX := Aside0.mk (WX.out.below hb4)
            replace T7 := Aside0.mk (T7.out.below hb4)
            replace TW := Aside0.mk (TW.out.below hb4)
            replace T12 := Aside0.mk (T12.out.below hb4)
            replace TQ := Aside0.mk (TQ.out.below hb4)
            replace HAS := Aside0.mk (HAS.out.below hb4)
            replace HBL := Aside0.mk (HBL.out.trans (hb4.mono HBL.out.size))
            clear hb4
            refine (all_any R ((d : Nat) : Int) A3 (0) c4 (([] : List ByteArray)) _ (lenIs HN) (by rw [lenIs HN]; exact HM.out) TQ.out).mono ?_
            rintro e w5 ⟨A5, c5, rfl, k1, k2, k3⟩
            simp only [lenIs HN]
            have K1 := Aside0.mk k1
            have K2 := Aside0.mk k2
            clear k1 k2
            clear q0 q1 q2 f0 f1 f2 p0 p1 p2 g0 g1 g2
            replace BX := Aside0.mk (BX.out.below k3)
            replace WX := Aside0.mk (WX.out.below k3)
            replace T7 := Aside0.mk (T7.out.below k3)
            replace TW := Aside0.mk (TW.out.below k3)
            replace T12 := Aside0.mk (T12.out.below k3)
            replace TQ := Aside0.mk (TQ.out.below k3)
            replace HAS := Aside0.mk (HAS.out.below k3)
            have hzz := (k3).size
            replace HBL := Aside0.mk (HBL.out.trans ((k3).mono HBL.out.size))
            obtain ⟨q0, q1, q2, f0, f1, f2⟩ := BX.out
            obtain ⟨p0, p1, p2, g0, g1, g2⟩ := WX.out
            have e1 := BX.out.lt
            have e2 := WX.out.lt
            have e3 := Nat.lt_of_succ_lt e2
            clear k3
            go_wp2_with fail
            refine (equal_same A5 (some ad7) (0) (0) c5 0 (([] : List ByteArray)) _ (lenIs HN) (lenIs HN) (by rw [lenIs HN]; exact HM.out) K1.out (by rw [lenIs HN]; exact HC7N.out) K2.out T7.out).mono ?_
            rintro e w6 ⟨rfl, k4⟩
            clear q0 q1 q2 f0 f1 f2 p0 p1 p2 g0 g1 g2
            replace BX := Aside0.mk (BX.out.below k4.below)
            replace WX := Aside0.mk (WX.out.below k4.below)
            replace T7 := Aside0.mk (T7.out.below k4.below)
            replace TW := Aside0.mk (TW.out.below k4.below)
            replace T12 := Aside0.mk (T12.out.below k4.below)
            replace TQ := Aside0.mk (TQ.out.below k4.below)
            replace HAS := Aside0.mk (HAS.out.below k4.below)
            have hzz := (k4.below).size
            replace HBL := Aside0.mk (HBL.out.trans ((k4.below).mono HBL.out.size))
            obtain ⟨q0, q1, q2, f0, f1, f2⟩ := BX.out
            obtain ⟨p0, p1, p2, g0, g1, g2⟩ := WX.out
            have e1 := BX.out.lt
            have e2 := WX.out.lt
            have e3 := Nat.lt_of_succ_lt e2
            clear k4
            go_wp2_with fail
            refine (len_any R ((d : Nat) : Int) A3 (0) c4 _).mono ?_
            rintro e w7 ⟨rfl, k5⟩
            clear q0 q1 q2 f0 f1 f2 p0 p1 p2 g0 g1 g2
            replace BX := Aside0.mk (BX.out.below k5)
            replace WX := Aside0.mk (WX.out.below k5)
            replace T7 := Aside0.mk (T7.out.below k5)
            replace TW := Aside0.mk (TW.out.below k5)
            replace T12 := Aside0.mk (T12.out.below k5)
            replace TQ := Aside0.mk (TQ.out.below k5)
            replace HAS := Aside0.mk (HAS.out.below k5)
            have hzz := (k5).size
            replace HBL := Aside0.mk (HBL.out.trans ((k5).mono HBL.out.size))
            obtain ⟨q0, q1, q2, f0, f1, f2⟩ := BX.out
            obtain ⟨p0, p1, p2, g0, g1, g2⟩ := WX.out
            have e1 := BX.out.lt
            have e2 := WX.out.lt
            have e3 := Nat.lt_of_succ_lt e2
            clear k5
            go_wp2_with fail
            refine (dropped_any R ((d : Nat) : Int) A3 (0) c4 _).mono ?_
            rintro e w8 ⟨rfl, k6⟩
            clear q0 q1 q2 f0 f1 f2 p0 p1 p2 g0 g1 g2
            replace BX := Aside0.mk (BX.out.below k6)
            replace WX := Aside0.mk (WX.out.below k6)
            replace T7 := Aside0.mk (T7.out.below k6)
            replace TW := Aside0.mk (TW.out.below k6)
            replace T12 := Aside0.mk (T12.out.below k6)
            replace TQ := Aside0.mk (TQ.out.below k6)
            replace HAS := Aside0.mk (HAS.out.below k6)
            have hzz := (k6).size
            replace HBL := Aside0.mk (HBL.out.trans ((k6).mono HBL.out.size))
            obtain ⟨q0, q1, q2, f0, f1, f2⟩ := BX.out
            obtain ⟨p0, p1, p2, g0, g1, g2⟩ := WX.out
            have e1 := BX.out.lt
            have e2 := WX.out.lt
            have e3 := Nat.lt_of_succ_lt e2
            clear k6
            go_wp2_with fail
            refine (all_any R ((d : Nat) : Int) A' (1) c3 ([x]) _ rfl HM0.out TW.out).mono ?_
            rintro e w9 ⟨A9, c9, rfl, k1, k2, k7⟩
            try simp only [List.length_cons, List.length_nil]
            have L1 := Aside0.mk k1
            have L2 := Aside0.mk k2
            clear k1 k2
            clear q0 q1 q2 f0 f1 f2 p0 p1 p2 g0 g1 g2
            replace BX := Aside0.mk (BX.out.below k7)
            replace WX := Aside0.mk (WX.out.below k7)
            replace T7 := Aside0.mk (T7.out.below k7)
            replace TW := Aside0.mk (TW.out.below k7)
            replace T12 := Aside0.mk (T12.out.below k7)
            replace TQ := Aside0.mk (TQ.out.below k7)
            replace HAS := Aside0.mk (HAS.out.below k7)
            have hzz := (k7).size
            replace HBL := Aside0.mk (HBL.out.trans ((k7).mono HBL.out.size))
            obtain ⟨q0, q1, q2, f0, f1, f2⟩ := BX.out
            obtain ⟨p0, p1, p2, g0, g1, g2⟩ := WX.out
            have e1 := BX.out.lt
            have e2 := WX.out.lt
            have e3 := Nat.lt_of_succ_lt e2
            clear k7
            go_wp2_with fail
            refine (equal_same A9 (some ad7) (1) (1) c9 1 ([x]) _ rfl rfl HM0.out L1.out HC7.out L2.out T12.out).mono ?_
            rintro e w10 ⟨rfl, k8⟩
            clear q0 q1 q2 f0 f1 f2 p0 p1 p2 g0 g1 g2
            replace BX := Aside0.mk (BX.out.below k8.below)
            replace WX := Aside0.mk (WX.out.below k8.below)
            replace T7 := Aside0.mk (T7.out.below k8.below)
            replace TW := Aside0.mk (TW.out.below k8.below)
            replace T12 := Aside0.mk (T12.out.below k8.below)
            replace TQ := Aside0.mk (TQ.out.below k8.below)
            replace HAS := Aside0.mk (HAS.out.below k8.below)
            have hzz := (k8.below).size
            replace HBL := Aside0.mk (HBL.out.trans ((k8.below).mono HBL.out.size))
            obtain ⟨q0, q1, q2, f0, f1, f2⟩ := BX.out
            obtain ⟨p0, p1, p2, g0, g1, g2⟩ := WX.out
            have e1 := BX.out.lt
            have e2 := WX.out.lt
            have e3 := Nat.lt_of_succ_lt e2
            clear k8
            go_wp2
            go_roundw
            case rel =>
              exact ⟨k + 1, d, ([] : List ByteArray), (some ad7), 0, hlt, by have := HDK.out; have := HD1.out; omega, by rw [lenIs HN]; have := HQ.out; omega, by rw [lenIs HN], rfl, by go_num, by rw [lenIs HN]; exact HC7N.out, T7.out, HG7N.out, HAS.out, HBL.out⟩
            case measure => simp [intOf]; omega
          · have HG7N : Aside0 (∀ ad, some (⟨ad7.block, ad7.off + 1, none⟩ : Addr) = some ad → G < ad.block) := Aside0.mk (fun ad h => by have := HG7.out ad7 rfl; obtain rfl := Option.some.inj h; exact this)
            have HC7N : Aside0 (q'.length ≤ c7 - 1) := Aside0.mk (by omega)
            have HN : LenIs q' q'.length := rfl
            replace T7 := Aside0.mk T7.out.tail
            have HAS := Aside0.mk (has_stored (R := R) (d' := d) BX.out TQ.out (by rw [lenIs HN]; exact HCN.out) HAN.out HDN.out)
            rw [lenIs HN] at HAS
            replace BX := Aside0.mk (boxed_set (R' := (R : Int)) (d' := ((d : Nat) : Int)) (A' := A3) (n' := q'.length) (c' := c4) BX.out)
            replace WX := Aside0.mk (WX.out.aside (g := G) (by omega) (.int .i64 (R : Int)) (.slice A3 (q'.length) c4) (.int .u64 ((d : Nat) : Int)))
            replace T7 := Aside0.mk (T7.out.aside (g := G) HG7N.out (.int .i64 (R : Int)) (.slice A3 (q'.length) c4) (.int .u64 ((d : Nat) : Int)))
            replace TW := Aside0.mk (TW.out.aside (g := G) HD'.out (.int .i64 (R : Int)) (.slice A3 (q'.length) c4) (.int .u64 ((d : Nat) : Int)))
            replace T12 := Aside0.mk (T12.out.aside (g := G) HG7.out (.int .i64 (R : Int)) (.slice A3 (q'.length) c4) (.int .u64 ((d : Nat) : Int)))
            replace TQ := Aside0.mk (TQ.out.aside (g := G) HDN.out (.int .i64 (R : Int)) (.slice A3 (q'.length) c4) (.int .u64 ((d : Nat) : Int)))
            replace HBL := Aside0.mk (below_aside (g := G) HBL.out hw2 (.int .i64 (R : Int)) (.slice A3 (q'.length) c4) (.int .u64 ((d : Nat) : Int)))
            have hb4 := HA.out (((w3.setCell ⟨G, 0, none⟩ (.int .i64 (R : Int))).setCell ⟨G, 1, none⟩ (.slice A3 (q'.length) c4)).setCell ⟨G, 2, none⟩ (.int .u64 ((d : Nat) : Int)))
            replace BX := Aside0.mk (BX.out.below hb4)
            replace WX := Aside0.mk (WX.out.below hb4)
            replace T7 := Aside0.mk (T7.out.below hb4)
            replace TW := Aside0.mk (TW.out.below hb4)
            replace T12 := Aside0.mk (T12.out.below hb4)
            replace TQ := Aside0.mk (TQ.out.below hb4)
            replace HAS := Aside0.mk (HAS.out.below hb4)
            replace HBL := Aside0.mk (HBL.out.trans (hb4.mono HBL.out.size))
            clear hb4
            refine (all_any R ((d : Nat) : Int) A3 (q'.length) c4 (q') _ (lenIs HN) (by rw [lenIs HN]; exact HM.out) TQ.out).mono ?_
            rintro e w5 ⟨A5, c5, rfl, k1, k2, k3⟩
            simp only [lenIs HN]
            have K1 := Aside0.mk k1
            have K2 := Aside0.mk k2
            clear k1 k2
            clear q0 q1 q2 f0 f1 f2 p0 p1 p2 g0 g1 g2
            replace BX := Aside0.mk (BX.out.below k3)
            replace WX := Aside0.mk (WX.out.below k3)
            replace T7 := Aside0.mk (T7.out.below k3)
            replace TW := Aside0.mk (TW.out.below k3)
            replace T12 := Aside0.mk (T12.out.below k3)
            replace TQ := Aside0.mk (TQ.out.below k3)
            replace HAS := Aside0.mk (HAS.out.below k3)
            have hzz := (k3).size
            replace HBL := Aside0.mk (HBL.out.trans ((k3).mono HBL.out.size))
            obtain ⟨q0, q1, q2, f0, f1, f2⟩ := BX.out
            obtain ⟨p0, p1, p2, g0, g1, g2⟩ := WX.out
            have e1 := BX.out.lt
            have e2 := WX.out.lt
            have e3 := Nat.lt_of_succ_lt e2
            clear k3
            go_wp2_with fail
            refine (equal_same A5 (some ⟨ad7.block, ad7.off + 1, none⟩) (q'.length) (q'.length) c5 (c7 - 1) (q') _ (lenIs HN) (lenIs HN) (by rw [lenIs HN]; exact HM.out) K1.out (by rw [lenIs HN]; exact HC7N.out) K2.out T7.out).mono ?_
            rintro e w6 ⟨rfl, k4⟩
            clear q0 q1 q2 f0 f1 f2 p0 p1 p2 g0 g1 g2
            replace BX := Aside0.mk (BX.out.below k4.below)
            replace WX := Aside0.mk (WX.out.below k4.below)
            replace T7 := Aside0.mk (T7.out.below k4.below)
            replace TW := Aside0.mk (TW.out.below k4.below)
            replace T12 := Aside0.mk (T12.out.below k4.below)
            replace TQ := Aside0.mk (TQ.out.below k4.below)
            replace HAS := Aside0.mk (HAS.out.below k4.below)
            have hzz := (k4.below).size
            replace HBL := Aside0.mk (HBL.out.trans ((k4.below).mono HBL.out.size))
            obtain ⟨q0, q1, q2, f0, f1, f2⟩ := BX.out
            obtain ⟨p0, p1, p2, g0, g1, g2⟩ := WX.out
            have e1 := BX.out.lt
            have e2 := WX.out.lt
            have e3 := Nat.lt_of_succ_lt e2
            clear k4
            go_wp2_with fail
            refine (len_any R ((d : Nat) : Int) A3 (q'.length) c4 _).mono ?_
            rintro e w7 ⟨rfl, k5⟩
            clear q0 q1 q2 f0 f1 f2 p0 p1 p2 g0 g1 g2
            replace BX := Aside0.mk (BX.out.below k5)
            replace WX := Aside0.mk (WX.out.below k5)
            replace T7 := Aside0.mk (T7.out.below k5)
            replace TW := Aside0.mk (TW.out.below k5)
            replace T12 := Aside0.mk (T12.out.below k5)
            replace TQ := Aside0.mk (TQ.out.below k5)
            replace HAS := Aside0.mk (HAS.out.below k5)
            have hzz := (k5).size
            replace HBL := Aside0.mk (HBL.out.trans ((k5).mono HBL.out.size))
            obtain ⟨q0, q1, q2, f0, f1, f2⟩ := BX.out
            obtain ⟨p0, p1, p2, g0, g1, g2⟩ := WX.out
            have e1 := BX.out.lt
            have e2 := WX.out.lt
            have e3 := Nat.lt_of_succ_lt e2
            clear k5
            go_wp2_with fail
            refine (dropped_any R ((d : Nat) : Int) A3 (q'.length) c4 _).mono ?_
            rintro e w8 ⟨rfl, k6⟩
            clear q0 q1 q2 f0 f1 f2 p0 p1 p2 g0 g1 g2
            replace BX := Aside0.mk (BX.out.below k6)
            replace WX := Aside0.mk (WX.out.below k6)
            replace T7 := Aside0.mk (T7.out.below k6)
            replace TW := Aside0.mk (TW.out.below k6)
            replace T12 := Aside0.mk (T12.out.below k6)
            replace TQ := Aside0.mk (TQ.out.below k6)
            replace HAS := Aside0.mk (HAS.out.below k6)
            have hzz := (k6).size
            replace HBL := Aside0.mk (HBL.out.trans ((k6).mono HBL.out.size))
            obtain ⟨q0, q1, q2, f0, f1, f2⟩ := BX.out
            obtain ⟨p0, p1, p2, g0, g1, g2⟩ := WX.out
            have e1 := BX.out.lt
            have e2 := WX.out.lt
            have e3 := Nat.lt_of_succ_lt e2
            clear k6
            go_wp2_with fail
            refine (all_any R ((d : Nat) : Int) A' (q'.length + 1) c3 (x :: q') _ rfl HM0.out TW.out).mono ?_
            rintro e w9 ⟨A9, c9, rfl, k1, k2, k7⟩
            try simp only [List.length_cons, List.length_nil]
            have L1 := Aside0.mk k1
            have L2 := Aside0.mk k2
            clear k1 k2
            clear q0 q1 q2 f0 f1 f2 p0 p1 p2 g0 g1 g2
            replace BX := Aside0.mk (BX.out.below k7)
            replace WX := Aside0.mk (WX.out.below k7)
            replace T7 := Aside0.mk (T7.out.below k7)
            replace TW := Aside0.mk (TW.out.below k7)
            replace T12 := Aside0.mk (T12.out.below k7)
            replace TQ := Aside0.mk (TQ.out.below k7)
            replace HAS := Aside0.mk (HAS.out.below k7)
            have hzz := (k7).size
            replace HBL := Aside0.mk (HBL.out.trans ((k7).mono HBL.out.size))
            obtain ⟨q0, q1, q2, f0, f1, f2⟩ := BX.out
            obtain ⟨p0, p1, p2, g0, g1, g2⟩ := WX.out
            have e1 := BX.out.lt
            have e2 := WX.out.lt
            have e3 := Nat.lt_of_succ_lt e2
            clear k7
            go_wp2_with fail
            refine (equal_same A9 (some ad7) (q'.length + 1) (q'.length + 1) c9 c7 (x :: q') _ rfl rfl HM0.out L1.out HC7.out L2.out T12.out).mono ?_
            rintro e w10 ⟨rfl, k8⟩
            clear q0 q1 q2 f0 f1 f2 p0 p1 p2 g0 g1 g2
            replace BX := Aside0.mk (BX.out.below k8.below)
            replace WX := Aside0.mk (WX.out.below k8.below)
            replace T7 := Aside0.mk (T7.out.below k8.below)
            replace TW := Aside0.mk (TW.out.below k8.below)
            replace T12 := Aside0.mk (T12.out.below k8.below)
            replace TQ := Aside0.mk (TQ.out.below k8.below)
            replace HAS := Aside0.mk (HAS.out.below k8.below)
            have hzz := (k8.below).size
            replace HBL := Aside0.mk (HBL.out.trans ((k8.below).mono HBL.out.size))
            obtain ⟨q0, q1, q2, f0, f1, f2⟩ := BX.out
            obtain ⟨p0, p1, p2, g0, g1, g2⟩ := WX.out
            have e1 := BX.out.lt
            have e2 := WX.out.lt
            have e3 := Nat.lt_of_succ_lt e2
            clear k8
            go_wp2
            go_roundw
            case rel =>
              exact ⟨k + 1, d, q', (some ⟨ad7.block, ad7.off + 1, none⟩), (c7 - 1), hlt, by have := HDK.out; have := HD1.out; omega, by rw [lenIs HN]; have := HQ.out; omega, by rw [lenIs HN], rfl, by go_num, by rw [lenIs HN]; exact HC7N.out, T7.out, HG7N.out, HAS.out, HBL.out⟩
            case measure => simp [intOf]; omega
      · by_cases hfit : q.length < R
        · go_wp2_with fail
          have HW1 : Aside0 (Below wr.heap.size wr ((wr.alloc (Obj.cells #[.int .u8 D, .string X] 52)).alloc (Obj.cells #[.int .i64 (R : Int), .slice A' q.length c3, .int .u64 (d : Int)] 26))) := Aside0.mk (((Below.refl _ _).alloc (Nat.le_refl _) _).alloc (by simp) _)
          have WX : Aside0 (Boxed ((wr.alloc (Obj.cells #[.int .u8 D, .string X] 52)).alloc (Obj.cells #[.int .i64 (R : Int), .slice A' q.length c3, .int .u64 (d : Int)] 26)) (wr.heap.size + 1) (R : Int) (d : Int) A' q.length c3) := Aside0.mk (by simpa using boxed_new (w := wr.alloc (Obj.cells #[.int .u8 D, .string X] 52)) (R := (R : Int)) (d := (d : Int)) (A := A') (n := q.length) (c := c3))
          have ax : (((wr.alloc (Obj.cells #[.int .u8 D, .string X] 52)).alloc (Obj.cells #[.int .i64 (R : Int), .slice A' q.length c3, .int .u64 (d : Int)] 26))).cell? ⟨wr.heap.size, 1, none⟩ = some (.string X) := by go_simp
          have AX := Aside0.mk ax
          have hz1 : (((wr.alloc (Obj.cells #[.int .u8 D, .string X] 52)).alloc (Obj.cells #[.int .i64 (R : Int), .slice A' q.length c3, .int .u64 (d : Int)] 26))).heap.size = wr.heap.size + 1 + 1 := by simp
          clear q0 q1 q2 f0 f1 f2
          replace BX := Aside0.mk (BX.out.below HW1.out)
          have TW := Aside0.mk (TX.out.below HW1.out)
          have T12 := Aside0.mk (T7.out.below HW1.out)
          replace T7 := T12
          have TQ := TW
          replace HBL := Aside0.mk (HBL.out.trans (HW1.out.mono HBL.out.size))
          obtain ⟨q0, q1, q2, f0, f1, f2⟩ := BX.out
          obtain ⟨p0, p1, p2, g0, g1, g2⟩ := WX.out
          refine (put_at R (d : Int) A' q q.length c3 X _ rfl (by omega) (by have := HQ.out; omega) HC'.out HA'.out TQ.out).mono ?_
          rintro e w3 ⟨A3, c4, rfl, hc3, hA3, ht3, hb3, hd3⟩
          have HCN := Aside0.mk hc3
          have HAN := Aside0.mk hA3
          have HDN : Aside0 (∀ ad, A3 = some ad → G < ad.block) := Aside0.mk (fun ad h => by have := hd3 ad h; rw [hz1] at this; omega)
          clear hc3 hA3 hd3
          clear q0 q1 q2 f0 f1 f2 p0 p1 p2 g0 g1 g2 ax
          replace BX := Aside0.mk (BX.out.below hb3)
          replace WX := Aside0.mk (WX.out.below hb3)
          replace T7 := Aside0.mk (T7.out.below hb3)
          replace TW := Aside0.mk (TW.out.below hb3)
          replace T12 := Aside0.mk (T12.out.below hb3)
          replace TQ := Aside0.mk (TQ.out.below hb3)
          replace AX := Aside0.mk (((hb3).cell (World.block_lt_of_cell? _ _ AX.out)).trans AX.out)
          have ax := AX.out
          have hzz := (hb3).size
          replace HBL := Aside0.mk (HBL.out.trans ((hb3).mono HBL.out.size))
          obtain ⟨q0, q1, q2, f0, f1, f2⟩ := BX.out
          obtain ⟨p0, p1, p2, g0, g1, g2⟩ := WX.out
          have e1 := BX.out.lt
          have e2 := WX.out.lt
          have e3 := Nat.lt_of_succ_lt e2
          replace TQ := Aside0.mk ht3
          clear ht3
          have HN : LenIs (q ++ [X]) (q.length + 1) := by simp [LenIs]
          have HM : Aside0 (q.length + 1 ≤ 1000000) := Aside0.mk (by have := HQ.out; omega)
          have HM0 : Aside0 (q.length ≤ 1000000) := Aside0.mk (by have := HQ.out; omega)
          rw [hz1] at hzz
          clear hb3
          have ha : ∀ W : World, Below W.heap.size W (W.alloc (Obj.cells #[.int .i64 (R : Int), .slice A3 (q.length + 1) c4, .int .u64 ((d : Nat) : Int)] 26)) := fun W => (Below.refl _ _).alloc (Nat.le_refl _) _
          have HA := Aside0.mk ha
          clear ha
          go_wp2_with fail
          have T7a := Aside0.mk (T7.out.below (HA.out w3))
          have NX := Aside0.mk (boxed_new (w := w3) (R := (R : Int)) (d := ((d : Nat) : Int)) (A := A3) (n := q.length + 1) (c := c4))
          refine (rput_fits A7 q.length c7 R X q _ rfl (by omega) (by have := HQ.out; omega) T7a.out).mono ?_
          rintro e w4 ⟨A8, c8, rfl, hc8, ht8, hb8, hd8⟩
          have HC7N := Aside0.mk hc8
          have HG7N : Aside0 (∀ ad, A8 = some ad → G < ad.block) := Aside0.mk (fun ad h => by have := hd8 ad h; simp at this; omega)
          replace NX := Aside0.mk (NX.out.below hb8)
          have hb9 := (HA.out w3).trans (hb8.mono (HA.out w3).size)
          clear hc8 hd8 hb8
          clear q0 q1 q2 f0 f1 f2 p0 p1 p2 g0 g1 g2 ax
          replace BX := Aside0.mk (BX.out.below hb9)
          replace WX := Aside0.mk (WX.out.below hb9)
          replace T7 := Aside0.mk (T7.out.below hb9)
          replace TW := Aside0.mk (TW.out.below hb9)
          replace T12 := Aside0.mk (T12.out.below hb9)
          replace TQ := Aside0.mk (TQ.out.below hb9)
          replace AX := Aside0.mk (((hb9).cell (World.block_lt_of_cell? _ _ AX.out)).trans AX.out)
          have ax := AX.out
          have hzz := (hb9).size
          replace HBL := Aside0.mk (HBL.out.trans ((hb9).mono HBL.out.size))
          obtain ⟨q0, q1, q2, f0, f1, f2⟩ := BX.out
          obtain ⟨p0, p1, p2, g0, g1, g2⟩ := WX.out
          have e1 := BX.out.lt
          have e2 := WX.out.lt
          have e3 := Nat.lt_of_succ_lt e2
          obtain ⟨r0, r1, r2, i0, i1, i2⟩ := NX.out
          replace T7 := Aside0.mk ht8
          clear ht8 hb9
          go_wp2_with fail
          have HAS := Aside0.mk (has_stored (R := R) (d' := d) BX.out TQ.out (by rw [lenIs HN]; exact HCN.out) HAN.out HDN.out)
          rw [lenIs HN] at HAS
          replace BX := Aside0.mk (boxed_set (R' := (R : Int)) (d' := ((d : Nat) : Int)) (A' := A3) (n' := q.length + 1) (c' := c4) BX.out)
          replace WX := Aside0.mk (WX.out.aside (g := G) (by omega) (.int .i64 (R : Int)) (.slice A3 (q.length + 1) c4) (.int .u64 ((d : Nat) : Int)))
          replace T7 := Aside0.mk (T7.out.aside (g := G) HG7N.out (.int .i64 (R : Int)) (.slice A3 (q.length + 1) c4) (.int .u64 ((d : Nat) : Int)))
          replace TW := Aside0.mk (TW.out.aside (g := G) HD'.out (.int .i64 (R : Int)) (.slice A3 (q.length + 1) c4) (.int .u64 ((d : Nat) : Int)))
          replace T12 := Aside0.mk (T12.out.aside (g := G) HG7.out (.int .i64 (R : Int)) (.slice A3 (q.length + 1) c4) (.int .u64 ((d : Nat) : Int)))
          replace TQ := Aside0.mk (TQ.out.aside (g := G) HDN.out (.int .i64 (R : Int)) (.slice A3 (q.length + 1) c4) (.int .u64 ((d : Nat) : Int)))
          replace HBL := Aside0.mk (below_aside (g := G) HBL.out hw2 (.int .i64 (R : Int)) (.slice A3 (q.length + 1) c4) (.int .u64 ((d : Nat) : Int)))
          refine (all_any R ((d : Nat) : Int) A3 (q.length + 1) c4 (q ++ [X]) _ (lenIs HN) (by rw [lenIs HN]; exact HM.out) TQ.out).mono ?_
          rintro e w5 ⟨A5, c5, rfl, k1, k2, k3⟩
          simp only [lenIs HN]
          have K1 := Aside0.mk k1
          have K2 := Aside0.mk k2
          clear k1 k2
          clear q0 q1 q2 f0 f1 f2 p0 p1 p2 g0 g1 g2
          replace BX := Aside0.mk (BX.out.below k3)
          replace WX := Aside0.mk (WX.out.below k3)
          replace T7 := Aside0.mk (T7.out.below k3)
          replace TW := Aside0.mk (TW.out.below k3)
          replace T12 := Aside0.mk (T12.out.below k3)
          replace TQ := Aside0.mk (TQ.out.below k3)
          replace HAS := Aside0.mk (HAS.out.below k3)
          have hzz := (k3).size
          replace HBL := Aside0.mk (HBL.out.trans ((k3).mono HBL.out.size))
          obtain ⟨q0, q1, q2, f0, f1, f2⟩ := BX.out
          obtain ⟨p0, p1, p2, g0, g1, g2⟩ := WX.out
          have e1 := BX.out.lt
          have e2 := WX.out.lt
          have e3 := Nat.lt_of_succ_lt e2
          clear k3
          go_wp2_with fail
          refine (equal_same A5 A8 (q.length + 1) (q.length + 1) c5 c8 (q ++ [X]) _ (lenIs HN) (lenIs HN) (by rw [lenIs HN]; exact HM.out) K1.out (by rw [lenIs HN]; exact HC7N.out) K2.out T7.out).mono ?_
          rintro e w6 ⟨rfl, k4⟩
          clear q0 q1 q2 f0 f1 f2 p0 p1 p2 g0 g1 g2
          replace BX := Aside0.mk (BX.out.below k4.below)
          replace WX := Aside0.mk (WX.out.below k4.below)
          replace T7 := Aside0.mk (T7.out.below k4.below)
          replace TW := Aside0.mk (TW.out.below k4.below)
          replace T12 := Aside0.mk (T12.out.below k4.below)
          replace TQ := Aside0.mk (TQ.out.below k4.below)
          replace HAS := Aside0.mk (HAS.out.below k4.below)
          have hzz := (k4.below).size
          replace HBL := Aside0.mk (HBL.out.trans ((k4.below).mono HBL.out.size))
          obtain ⟨q0, q1, q2, f0, f1, f2⟩ := BX.out
          obtain ⟨p0, p1, p2, g0, g1, g2⟩ := WX.out
          have e1 := BX.out.lt
          have e2 := WX.out.lt
          have e3 := Nat.lt_of_succ_lt e2
          clear k4
          go_wp2_with fail
          refine (len_any R ((d : Nat) : Int) A3 (q.length + 1) c4 _).mono ?_
          rintro e w7 ⟨rfl, k5⟩
          clear q0 q1 q2 f0 f1 f2 p0 p1 p2 g0 g1 g2
          replace BX := Aside0.mk (BX.out.below k5)
          replace WX := Aside0.mk (WX.out.below k5)
          replace T7 := Aside0.mk (T7.out.below k5)
          replace TW := Aside0.mk (TW.out.below k5)
          replace T12 := Aside0.mk (T12.out.below k5)
          replace TQ := Aside0.mk (TQ.out.below k5)
          replace HAS := Aside0.mk (HAS.out.below k5)
          have hzz := (k5).size
          replace HBL := Aside0.mk (HBL.out.trans ((k5).mono HBL.out.size))
          obtain ⟨q0, q1, q2, f0, f1, f2⟩ := BX.out
          obtain ⟨p0, p1, p2, g0, g1, g2⟩ := WX.out
          have e1 := BX.out.lt
          have e2 := WX.out.lt
          have e3 := Nat.lt_of_succ_lt e2
          clear k5
          go_wp2_with fail
          refine (dropped_any R ((d : Nat) : Int) A3 (q.length + 1) c4 _).mono ?_
          rintro e w8 ⟨rfl, k6⟩
          clear q0 q1 q2 f0 f1 f2 p0 p1 p2 g0 g1 g2
          replace BX := Aside0.mk (BX.out.below k6)
          replace WX := Aside0.mk (WX.out.below k6)
          replace T7 := Aside0.mk (T7.out.below k6)
          replace TW := Aside0.mk (TW.out.below k6)
          replace T12 := Aside0.mk (T12.out.below k6)
          replace TQ := Aside0.mk (TQ.out.below k6)
          replace HAS := Aside0.mk (HAS.out.below k6)
          have hzz := (k6).size
          replace HBL := Aside0.mk (HBL.out.trans ((k6).mono HBL.out.size))
          obtain ⟨q0, q1, q2, f0, f1, f2⟩ := BX.out
          obtain ⟨p0, p1, p2, g0, g1, g2⟩ := WX.out
          have e1 := BX.out.lt
          have e2 := WX.out.lt
          have e3 := Nat.lt_of_succ_lt e2
          clear k6
          go_wp2_with fail
          refine (all_any R ((d : Nat) : Int) A' (q.length) c3 (q) _ rfl HM0.out TW.out).mono ?_
          rintro e w9 ⟨A9, c9, rfl, k1, k2, k7⟩
          try simp only [List.length_cons, List.length_nil]
          have L1 := Aside0.mk k1
          have L2 := Aside0.mk k2
          clear k1 k2
          clear q0 q1 q2 f0 f1 f2 p0 p1 p2 g0 g1 g2
          replace BX := Aside0.mk (BX.out.below k7)
          replace WX := Aside0.mk (WX.out.below k7)
          replace T7 := Aside0.mk (T7.out.below k7)
          replace TW := Aside0.mk (TW.out.below k7)
          replace T12 := Aside0.mk (T12.out.below k7)
          replace TQ := Aside0.mk (TQ.out.below k7)
          replace HAS := Aside0.mk (HAS.out.below k7)
          have hzz := (k7).size
          replace HBL := Aside0.mk (HBL.out.trans ((k7).mono HBL.out.size))
          obtain ⟨q0, q1, q2, f0, f1, f2⟩ := BX.out
          obtain ⟨p0, p1, p2, g0, g1, g2⟩ := WX.out
          have e1 := BX.out.lt
          have e2 := WX.out.lt
          have e3 := Nat.lt_of_succ_lt e2
          clear k7
          go_wp2_with fail
          refine (equal_same A9 A7 (q.length) (q.length) c9 c7 (q) _ rfl rfl HM0.out L1.out HC7.out L2.out T12.out).mono ?_
          rintro e w10 ⟨rfl, k8⟩
          clear q0 q1 q2 f0 f1 f2 p0 p1 p2 g0 g1 g2
          replace BX := Aside0.mk (BX.out.below k8.below)
          replace WX := Aside0.mk (WX.out.below k8.below)
          replace T7 := Aside0.mk (T7.out.below k8.below)
          replace TW := Aside0.mk (TW.out.below k8.below)
          replace T12 := Aside0.mk (T12.out.below k8.below)
          replace TQ := Aside0.mk (TQ.out.below k8.below)
          replace HAS := Aside0.mk (HAS.out.below k8.below)
          have hzz := (k8.below).size
          replace HBL := Aside0.mk (HBL.out.trans ((k8.below).mono HBL.out.size))
          obtain ⟨q0, q1, q2, f0, f1, f2⟩ := BX.out
          obtain ⟨p0, p1, p2, g0, g1, g2⟩ := WX.out
          have e1 := BX.out.lt
          have e2 := WX.out.lt
          have e3 := Nat.lt_of_succ_lt e2
          clear k8
          go_wp2
          go_roundw
          case rel =>
            exact ⟨k + 1, d, q ++ [X], A8, c8, hlt, by have := HDK.out; have := HD1.out; omega, by rw [lenIs HN]; have := HQ.out; omega, by rw [lenIs HN], rfl, by go_num, by rw [lenIs HN]; exact HC7N.out, T7.out, HG7N.out, HAS.out, HBL.out⟩
          case measure => simp [intOf]; omega
        · go_wp2_with fail
          have HW1 : Aside0 (Below wr.heap.size wr ((wr.alloc (Obj.cells #[.int .u8 D, .string X] 52)).alloc (Obj.cells #[.int .i64 (R : Int), .slice A' q.length c3, .int .u64 (d : Int)] 26))) := Aside0.mk (((Below.refl _ _).alloc (Nat.le_refl _) _).alloc (by simp) _)
          have WX : Aside0 (Boxed ((wr.alloc (Obj.cells #[.int .u8 D, .string X] 52)).alloc (Obj.cells #[.int .i64 (R : Int), .slice A' q.length c3, .int .u64 (d : Int)] 26)) (wr.heap.size + 1) (R : Int) (d : Int) A' q.length c3) := Aside0.mk (by simpa using boxed_new (w := wr.alloc (Obj.cells #[.int .u8 D, .string X] 52)) (R := (R : Int)) (d := (d : Int)) (A := A') (n := q.length) (c := c3))
          have ax : (((wr.alloc (Obj.cells #[.int .u8 D, .string X] 52)).alloc (Obj.cells #[.int .i64 (R : Int), .slice A' q.length c3, .int .u64 (d : Int)] 26))).cell? ⟨wr.heap.size, 1, none⟩ = some (.string X) := by go_simp
          have AX := Aside0.mk ax
          have hz1 : (((wr.alloc (Obj.cells #[.int .u8 D, .string X] 52)).alloc (Obj.cells #[.int .i64 (R : Int), .slice A' q.length c3, .int .u64 (d : Int)] 26))).heap.size = wr.heap.size + 1 + 1 := by simp
          clear q0 q1 q2 f0 f1 f2
          replace BX := Aside0.mk (BX.out.below HW1.out)
          have TW := Aside0.mk (TX.out.below HW1.out)
          have T12 := Aside0.mk (T7.out.below HW1.out)
          replace T7 := T12
          have TQ := TW
          replace HBL := Aside0.mk (HBL.out.trans (HW1.out.mono HBL.out.size))
          obtain ⟨q0, q1, q2, f0, f1, f2⟩ := BX.out
          obtain ⟨p0, p1, p2, g0, g1, g2⟩ := WX.out
          refine (put_over R (d : Int) (d1 : Int) A' q.length c3 X _ (by omega) (by have := HQ.out; omega) hwr).mono ?_
          rintro e w3 ⟨rfl, hb3⟩
          have HCN : Aside0 (q.length ≤ c3) := HC'
          have HAN := HA'
          have HDN := HD'
          clear q0 q1 q2 f0 f1 f2 p0 p1 p2 g0 g1 g2 ax
          replace BX := Aside0.mk (BX.out.below hb3)
          replace WX := Aside0.mk (WX.out.below hb3)
          replace T7 := Aside0.mk (T7.out.below hb3)
          replace TW := Aside0.mk (TW.out.below hb3)
          replace T12 := Aside0.mk (T12.out.below hb3)
          replace TQ := Aside0.mk (TQ.out.below hb3)
          replace AX := Aside0.mk (((hb3).cell (World.block_lt_of_cell? _ _ AX.out)).trans AX.out)
          have ax := AX.out
          have hzz := (hb3).size
          replace HBL := Aside0.mk (HBL.out.trans ((hb3).mono HBL.out.size))
          obtain ⟨q0, q1, q2, f0, f1, f2⟩ := BX.out
          obtain ⟨p0, p1, p2, g0, g1, g2⟩ := WX.out
          have e1 := BX.out.lt
          have e2 := WX.out.lt
          have e3 := Nat.lt_of_succ_lt e2
          have HN : LenIs (q) (q.length) := by simp [LenIs]
          have HM : Aside0 (q.length ≤ 1000000) := Aside0.mk (by have := HQ.out; omega)
          have HM0 : Aside0 (q.length ≤ 1000000) := Aside0.mk (by have := HQ.out; omega)
          rw [hz1] at hzz
          clear hb3
          have ha : ∀ W : World, Below W.heap.size W (W.alloc (Obj.cells #[.int .i64 (R : Int), .slice A' (q.length) c3, .int .u64 ((d1 : Nat) : Int)] 26)) := fun W => (Below.refl _ _).alloc (Nat.le_refl _) _
          have HA := Aside0.mk ha
          clear ha
          go_wp2_with fail
          refine (rput_full A7 q.length c7 R X _ (by omega) (by have := HQ.out; omega)).mono ?_
          rintro e w4 ⟨rfl, rfl⟩
          have HG7N := HG7
          have HC7N := HC7
          go_wp2_with fail
          have HAS := Aside0.mk (has_stored (R := R) (d' := d1) BX.out TQ.out (by rw [lenIs HN]; exact HCN.out) HAN.out HDN.out)
          rw [lenIs HN] at HAS
          replace BX := Aside0.mk (boxed_set (R' := (R : Int)) (d' := ((d1 : Nat) : Int)) (A' := A') (n' := q.length) (c' := c3) BX.out)
          replace WX := Aside0.mk (WX.out.aside (g := G) (by omega) (.int .i64 (R : Int)) (.slice A' (q.length) c3) (.int .u64 ((d1 : Nat) : Int)))
          replace T7 := Aside0.mk (T7.out.aside (g := G) HG7N.out (.int .i64 (R : Int)) (.slice A' (q.length) c3) (.int .u64 ((d1 : Nat) : Int)))
          replace TW := Aside0.mk (TW.out.aside (g := G) HD'.out (.int .i64 (R : Int)) (.slice A' (q.length) c3) (.int .u64 ((d1 : Nat) : Int)))
          replace T12 := Aside0.mk (T12.out.aside (g := G) HG7.out (.int .i64 (R : Int)) (.slice A' (q.length) c3) (.int .u64 ((d1 : Nat) : Int)))
          replace TQ := Aside0.mk (TQ.out.aside (g := G) HDN.out (.int .i64 (R : Int)) (.slice A' (q.length) c3) (.int .u64 ((d1 : Nat) : Int)))
          replace HBL := Aside0.mk (below_aside (g := G) HBL.out hw2 (.int .i64 (R : Int)) (.slice A' (q.length) c3) (.int .u64 ((d1 : Nat) : Int)))
          have hb4 := HA.out (((w3.setCell ⟨G, 0, none⟩ (.int .i64 (R : Int))).setCell ⟨G, 1, none⟩ (.slice A' (q.length) c3)).setCell ⟨G, 2, none⟩ (.int .u64 ((d1 : Nat) : Int)))
          replace BX := Aside0.mk (BX.out.below hb4)
          replace WX := Aside0.mk (WX.out.below hb4)
          replace T7 := Aside0.mk (T7.out.below hb4)
          replace TW := Aside0.mk (TW.out.below hb4)
          replace T12 := Aside0.mk (T12.out.below hb4)
          replace TQ := Aside0.mk (TQ.out.below hb4)
          replace HAS := Aside0.mk (HAS.out.below hb4)
          replace HBL := Aside0.mk (HBL.out.trans (hb4.mono HBL.out.size))
          clear hb4
          refine (all_any R ((d1 : Nat) : Int) A' (q.length) c3 (q) _ (lenIs HN) (by rw [lenIs HN]; exact HM.out) TQ.out).mono ?_
          rintro e w5 ⟨A5, c5, rfl, k1, k2, k3⟩
          simp only [lenIs HN]
          have K1 := Aside0.mk k1
          have K2 := Aside0.mk k2
          clear k1 k2
          clear q0 q1 q2 f0 f1 f2 p0 p1 p2 g0 g1 g2
          replace BX := Aside0.mk (BX.out.below k3)
          replace WX := Aside0.mk (WX.out.below k3)
          replace T7 := Aside0.mk (T7.out.below k3)
          replace TW := Aside0.mk (TW.out.below k3)
          replace T12 := Aside0.mk (T12.out.below k3)
          replace TQ := Aside0.mk (TQ.out.below k3)
          replace HAS := Aside0.mk (HAS.out.below k3)
          have hzz := (k3).size
          replace HBL := Aside0.mk (HBL.out.trans ((k3).mono HBL.out.size))
          obtain ⟨q0, q1, q2, f0, f1, f2⟩ := BX.out
          obtain ⟨p0, p1, p2, g0, g1, g2⟩ := WX.out
          have e1 := BX.out.lt
          have e2 := WX.out.lt
          have e3 := Nat.lt_of_succ_lt e2
          clear k3
          go_wp2_with fail
          refine (equal_same A5 A7 (q.length) (q.length) c5 c7 (q) _ (lenIs HN) (lenIs HN) (by rw [lenIs HN]; exact HM.out) K1.out (by rw [lenIs HN]; exact HC7N.out) K2.out T7.out).mono ?_
          rintro e w6 ⟨rfl, k4⟩
          clear q0 q1 q2 f0 f1 f2 p0 p1 p2 g0 g1 g2
          replace BX := Aside0.mk (BX.out.below k4.below)
          replace WX := Aside0.mk (WX.out.below k4.below)
          replace T7 := Aside0.mk (T7.out.below k4.below)
          replace TW := Aside0.mk (TW.out.below k4.below)
          replace T12 := Aside0.mk (T12.out.below k4.below)
          replace TQ := Aside0.mk (TQ.out.below k4.below)
          replace HAS := Aside0.mk (HAS.out.below k4.below)
          have hzz := (k4.below).size
          replace HBL := Aside0.mk (HBL.out.trans ((k4.below).mono HBL.out.size))
          obtain ⟨q0, q1, q2, f0, f1, f2⟩ := BX.out
          obtain ⟨p0, p1, p2, g0, g1, g2⟩ := WX.out
          have e1 := BX.out.lt
          have e2 := WX.out.lt
          have e3 := Nat.lt_of_succ_lt e2
          clear k4
          go_wp2_with fail
          refine (len_any R ((d1 : Nat) : Int) A' (q.length) c3 _).mono ?_
          rintro e w7 ⟨rfl, k5⟩
          clear q0 q1 q2 f0 f1 f2 p0 p1 p2 g0 g1 g2
          replace BX := Aside0.mk (BX.out.below k5)
          replace WX := Aside0.mk (WX.out.below k5)
          replace T7 := Aside0.mk (T7.out.below k5)
          replace TW := Aside0.mk (TW.out.below k5)
          replace T12 := Aside0.mk (T12.out.below k5)
          replace TQ := Aside0.mk (TQ.out.below k5)
          replace HAS := Aside0.mk (HAS.out.below k5)
          have hzz := (k5).size
          replace HBL := Aside0.mk (HBL.out.trans ((k5).mono HBL.out.size))
          obtain ⟨q0, q1, q2, f0, f1, f2⟩ := BX.out
          obtain ⟨p0, p1, p2, g0, g1, g2⟩ := WX.out
          have e1 := BX.out.lt
          have e2 := WX.out.lt
          have e3 := Nat.lt_of_succ_lt e2
          clear k5
          go_wp2_with fail
          refine (dropped_any R ((d1 : Nat) : Int) A' (q.length) c3 _).mono ?_
          rintro e w8 ⟨rfl, k6⟩
          clear q0 q1 q2 f0 f1 f2 p0 p1 p2 g0 g1 g2
          replace BX := Aside0.mk (BX.out.below k6)
          replace WX := Aside0.mk (WX.out.below k6)
          replace T7 := Aside0.mk (T7.out.below k6)
          replace TW := Aside0.mk (TW.out.below k6)
          replace T12 := Aside0.mk (T12.out.below k6)
          replace TQ := Aside0.mk (TQ.out.below k6)
          replace HAS := Aside0.mk (HAS.out.below k6)
          have hzz := (k6).size
          replace HBL := Aside0.mk (HBL.out.trans ((k6).mono HBL.out.size))
          obtain ⟨q0, q1, q2, f0, f1, f2⟩ := BX.out
          obtain ⟨p0, p1, p2, g0, g1, g2⟩ := WX.out
          have e1 := BX.out.lt
          have e2 := WX.out.lt
          have e3 := Nat.lt_of_succ_lt e2
          clear k6
          go_wp2_with fail
          refine (all_any R ((d : Nat) : Int) A' (q.length) c3 (q) _ rfl HM0.out TW.out).mono ?_
          rintro e w9 ⟨A9, c9, rfl, k1, k2, k7⟩
          try simp only [List.length_cons, List.length_nil]
          have L1 := Aside0.mk k1
          have L2 := Aside0.mk k2
          clear k1 k2
          clear q0 q1 q2 f0 f1 f2 p0 p1 p2 g0 g1 g2
          replace BX := Aside0.mk (BX.out.below k7)
          replace WX := Aside0.mk (WX.out.below k7)
          replace T7 := Aside0.mk (T7.out.below k7)
          replace TW := Aside0.mk (TW.out.below k7)
          replace T12 := Aside0.mk (T12.out.below k7)
          replace TQ := Aside0.mk (TQ.out.below k7)
          replace HAS := Aside0.mk (HAS.out.below k7)
          have hzz := (k7).size
          replace HBL := Aside0.mk (HBL.out.trans ((k7).mono HBL.out.size))
          obtain ⟨q0, q1, q2, f0, f1, f2⟩ := BX.out
          obtain ⟨p0, p1, p2, g0, g1, g2⟩ := WX.out
          have e1 := BX.out.lt
          have e2 := WX.out.lt
          have e3 := Nat.lt_of_succ_lt e2
          clear k7
          go_wp2_with fail
          refine (equal_same A9 A7 (q.length) (q.length) c9 c7 (q) _ rfl rfl HM0.out L1.out HC7.out L2.out T12.out).mono ?_
          rintro e w10 ⟨rfl, k8⟩
          clear q0 q1 q2 f0 f1 f2 p0 p1 p2 g0 g1 g2
          replace BX := Aside0.mk (BX.out.below k8.below)
          replace WX := Aside0.mk (WX.out.below k8.below)
          replace T7 := Aside0.mk (T7.out.below k8.below)
          replace TW := Aside0.mk (TW.out.below k8.below)
          replace T12 := Aside0.mk (T12.out.below k8.below)
          replace TQ := Aside0.mk (TQ.out.below k8.below)
          replace HAS := Aside0.mk (HAS.out.below k8.below)
          have hzz := (k8.below).size
          replace HBL := Aside0.mk (HBL.out.trans ((k8.below).mono HBL.out.size))
          obtain ⟨q0, q1, q2, f0, f1, f2⟩ := BX.out
          obtain ⟨p0, p1, p2, g0, g1, g2⟩ := WX.out
          have e1 := BX.out.lt
          have e2 := WX.out.lt
          have e3 := Nat.lt_of_succ_lt e2
          clear k8
          go_wp2
          go_roundw
          case rel =>
            exact ⟨k + 1, d1, q, A7, c7, hlt, by have := HDK.out; have := HD1.out; omega, by rw [lenIs HN]; have := HQ.out; omega, by rw [lenIs HN], rfl, by go_num, by rw [lenIs HN]; exact HC7N.out, T7.out, HG7N.out, HAS.out, HBL.out⟩
          case measure => simp [intOf]; omega
    · obtain rfl : k = l.length := by omega
      clear hhas hbel
      go_wp2
      go_ret
      exact ⟨rfl, HBL.out⟩

end Go.Proofs.Ytihhclgjjgakpaa.Inbox
