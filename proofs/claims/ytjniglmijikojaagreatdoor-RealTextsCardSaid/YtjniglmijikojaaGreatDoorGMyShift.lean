/- Shift, RoundedInteger: their contracts. The conditions: the decimal lies at g, its digits are digits, the first no nought; the tables lie below g. floatBits: its contract: some number of 64 bits. The conditions: the decimal lies at g, its digits are digits, the first no nought; the tables lie below g. Reading: digits in a number's interval are read as that number. No conditions. parseFloat64: its contract. The condition: the table of tens is laid. parseFloat64 of any number: some float of 64 bits, no error or the one for the range. The conditions: the exponent lies from -345 to 310; the tables are laid. -/
import Derived.Test.YtjniglmijikojaaGreatDoorGMyLeft
import Derived.ScopeJumps
import Derived.Test.YtjniglmijikojaaGreatDoorGOwnPw
import Derived.Test.YtjniglmijikojaaGreatDoorGMyPack
import Derived.Test.YtjniglmijikojaaGreatDoorGMyShort
import Derived.Test.YtjniglmijikojaaGreatDoorGMyShelf
namespace Go.Proofs.YtjniglmijikojaaGreatDoor.Text
set_option linter.unusedSimpArgs false
set_option linter.unusedVariables false
open Go.RowKit Go.Lib Go.Proofs.YtjniglmijikojaaGreatDoor.Own Go.Proofs.YtjniglmijikojaaGreatDoorW.PrintWords

set_option maxRecDepth 30000 in
theorem shift_left (w : World) (g : Nat) (f : Nat → Int) (nd : Nat) (dp : Int) (k dl : Nat) (s : List Nat) (hk1 : 1 ≤ k) (hk2 : k ≤ 60) (hdp1 : -1000000 ≤ dp) (hdp2 : dp ≤ 1000000) (hd : Fine w g f nd dp) (ht : TabG g w) (hc : Cheat k dl s) :
    Calls Tryz.prog 50 #[.pointer (some ⟨g, 0, none⟩), .int .i64 (k : Int)] w (LeftRes g f nd dp dl w) := by
  have HL := Aside0.mk (left_any w g f nd dp k dl s hk1 hk2 hdp1 hdp2 hd ht hc)
  have c0 := hd.dec.nd
  have hlt := hd.dec.lt
  have hfz := hd.dec.fz
  have p1 : ((nd : Int) == 0) = false := beq_eq_false_iff_ne.2 (by have := hd.pos; omega)
  have p2 := eq_true (show (0 : Int) < (k : Int) by omega)
  have p2' := eq_true (show 0 < k by omega)
  have p3 := eq_false (show ¬ (60 : Int) < (k : Int) by omega)
  have p3' := eq_false (show ¬ 60 < k by omega)
  clear hd ht hc
  go_enter Tryz.func50, Tryz.ntmps50
  go_wp2
  refine wp_loop_rounds 1 ?_
  rw [rounds_succ]
  go_wp2_with fail
  refine (HL.out).mono ?_
  rintro e w' hR
  obtain ⟨rfl, hb, hx⟩ := hR
  have HB := Aside0.mk hb
  have HX := Aside0.mk hx
  clear hb hx
  go_wp2
  go_end0
  exact ⟨rfl, HB.out, HX.out⟩

set_option maxRecDepth 30000 in
theorem shift_right (w : World) (g : Nat) (f : Nat → Int) (nd : Nat) (dp : Int) (k : Nat) (hk1 : 1 ≤ k) (hk2 : k ≤ 60) (hdp1 : -1000000 ≤ dp) (hdp2 : dp ≤ 1000000) (hd : Fine w g f nd dp) :
    Calls Tryz.prog 50 #[.pointer (some ⟨g, 0, none⟩), .int .i64 (-(k : Int))] w (RightRes g f nd dp k w) := by
  have HL := Aside0.mk (right_any w g f nd dp k hk1 hk2 hdp1 hdp2 hd)
  have c0 := hd.dec.nd
  have hlt := hd.dec.lt
  have hfz := hd.dec.fz
  have p1 : ((nd : Int) == 0) = false := beq_eq_false_iff_ne.2 (by have := hd.pos; omega)
  have p2 := eq_false (show ¬ (0 : Int) < -(k : Int) by omega)
  have p3 := eq_true (show -(k : Int) < 0 by omega)
  have p4 := eq_true (show 0 < k by omega)
  have p5 := eq_false (show ¬ -(k : Int) < -60 by omega)
  have p5' := eq_false (show ¬ 60 < k by omega)
  clear hd
  go_enter Tryz.func50, Tryz.ntmps50
  go_wp2
  refine wp_loop_rounds 1 ?_
  rw [rounds_succ]
  go_wp2_with fail
  refine (HL.out).mono ?_
  rintro e w' hR
  obtain ⟨rfl, hb, hx⟩ := hR
  have HB := Aside0.mk hb
  have HX := Aside0.mk hx
  clear hb hx
  go_wp2
  go_end0
  exact ⟨rfl, HB.out, HX.out⟩

/-- What is left behind a shift: a decimal that is not nought. -/
def FarRes (g : Nat) (dp : Int) (w : World) (e : Ending) (w' : World) : Prop :=
  e = .returned (.tuple #[]) ∧ Below g w w' ∧ ∃ f' nd' dp', Fine w' g f' nd' dp' ∧ dp' ≤ dp ∧ dp - 40000 ≤ dp'
set_option maxRecDepth 30000 in
theorem shift_far (w : World) (g : Nat) (f : Nat → Int) (nd : Nat) (dp : Int) (k : Nat) (hk1 : 1 ≤ k) (hk2 : k ≤ 110000) (hdp1 : -900000 ≤ dp) (hdp2 : dp ≤ 900000) (hd : Fine w g f nd dp) :
    Calls Tryz.prog 50 #[.pointer (some ⟨g, 0, none⟩), .int .i64 (-(k : Int))] w (FarRes g dp w) := by
  have HD := Aside0.mk hd
  have c0 := hd.dec.nd
  have hlt := hd.dec.lt
  have hfz := hd.dec.fz
  have p1 : ((nd : Int) == 0) = false := beq_eq_false_iff_ne.2 (by have := hd.pos; omega)
  have p2 := eq_false (show ¬ (0 : Int) < -(k : Int) by omega)
  have p3 := eq_true (show -(k : Int) < 0 by omega)
  have p4 := eq_true (show 0 < k by omega)
  have HR := Aside0.mk (fun w' f' nd' dp' k' (h1 : 1 ≤ k') (h2 : k' ≤ 60) (h3 : -1000000 ≤ dp') (h4 : dp' ≤ 1000000) (hd : Fine w' g f' nd' dp') => right_any w' g f' nd' dp' k' h1 h2 h3 h4 hd)
  clear hd
  go_enter Tryz.func50, Tryz.ntmps50
  go_wp2
  go_loopw [1] (fun v wr => ∃ (j kk : Nat) (vi : Int) (f' : Nat → Int) (nd' : Nat) (dp' : Int), v = .int .i64 vi ∧ vi = -(kk : Int) ∧ 1 ≤ kk ∧ 60 * j + kk = k ∧ Fine wr g f' nd' dp' ∧ dp' ≤ dp ∧ dp - 20 * (j : Int) ≤ dp' ∧ Below g w wr) (fun v _ => (-(RowKit.intOf v)).toNat)
  case atStart => exact ⟨0, k, _, f, nd, dp, rfl, rfl, hk1, by omega, HD.out, by omega, by omega, Below.refl _ _⟩
  case round =>
    clear HD c0 hlt hfz p1 p2 p3 p4
    obtain ⟨j, kk, vi, f', nd', dp', rfl, hvi, hkk, hjk, hfi, hd1, hd2, hb⟩ := hrel
    have HB := Aside0.mk hb
    have HKK := Aside0.mk hkk
    have HJK := Aside0.mk hjk
    have HD1 := Aside0.mk hd1
    have HD2 := Aside0.mk hd2
    rcases Nat.lt_or_ge 60 kk with h | h
    · have HC := Aside0.mk (HR.out wr f' nd' dp' 60 (by omega) (by omega) (by omega) (by omega) hfi)
      have p1 := eq_true (show vi < -60 by omega)
      have e1 : vi + 60 = -((kk - 60 : Nat) : Int) := by omega
      have E1 := Aside0.mk e1
      have H60 := Aside0.mk h
      have hvb : -110000 ≤ vi ∧ vi ≤ 0 := by omega
      have MS := Aside0.mk (show (-(vi + 60)).toNat < (-vi).toNat by omega)
      clear hb hfi hd1 hd2 hkk hjk h e1 hvi
      go_wp2_with (go_at_call 75; refine (HC.out).mono ?_; rintro e w5 ⟨rfl, hb5, f5, nd5, dp5, hf5, h51, h52, _⟩; have HB5 := Aside0.mk hb5; have HF5 := Aside0.mk hf5; have H51 := Aside0.mk h51; have H52 := Aside0.mk h52; clear hb5 hf5 h51 h52)
      go_roundw
      case measure => exact MS.out
      case rel => exact ⟨j + 1, kk - 60, _, f5, nd5, dp5, rfl, E1.out, by have := H60.out; omega, by have := H60.out; have := HJK.out; omega, HF5.out, by have := H51.out; have := HD1.out; omega, by have := H52.out; have := HD2.out; omega, HB.out.trans HB5.out⟩
    · have HC := Aside0.mk (HR.out wr f' nd' dp' kk hkk h (by omega) (by omega) hfi)
      have p1 := eq_false (show ¬ vi < -60 by omega)
      obtain rfl : vi = -(kk : Int) := hvi
      have p6 := eq_false (show ¬ 60 < kk by omega)
      clear hb hfi hd1 hd2 hkk hjk
      go_wp2_with (go_at_call 75; refine (HC.out).mono ?_; rintro e w5 ⟨rfl, hb5, f5, nd5, dp5, hf5, h51, h52, _⟩; have HB5 := Aside0.mk hb5; have HF5 := Aside0.mk hf5; have H51 := Aside0.mk h51; have H52 := Aside0.mk h52; clear hb5 hf5 h51 h52)
      go_end0
      exact ⟨rfl, HB.out.trans HB5.out, f5, nd5, dp5, HF5.out, by have := H51.out; have := HD1.out; omega, by have := H52.out; have := HD2.out; have := HJK.out; omega⟩

theorem wrap_rng (x : Int) : 0 ≤ IntKind.u64.wrap x ∧ IntKind.u64.wrap x < 18446744073709551616 := by
  rw [IntKind.wrap_u64]
  omega
/-- What RoundedInteger tells: some number of 64 bits. -/
def NumRes (w : World) (e : Ending) (w' : World) : Prop := (∃ m : Int, 0 ≤ m ∧ m < 18446744073709551616 ∧ e = .returned (.int .u64 m)) ∧ w = w'
set_option maxRecDepth 30000 in
set_option maxHeartbeats 2000000 in
theorem rounded_any (w : World) (g : Nat) (f : Nat → Int) (nd : Nat) (dp : Int) (hd : Fine w g f nd dp) (hdp : -1000000 ≤ dp) :
    Calls Tryz.prog 103 #[.pointer (some ⟨g, 0, none⟩)] w (NumRes w) := by
  have HRU := Aside0.mk (fun n => round_up w g f nd dp n hd.le hd.dec hd.digs)
  have HD := Aside0.mk hd
  have c0 := hd.dec.nd
  have c1 := hd.dec.dp
  have hlt := hd.dec.lt
  have hfz := hd.dec.fz
  have hnd := hd.le
  clear hd
  rcases Int.lt_or_le 20 dp with h | h
  · have p := eq_true h
    clear h
    go_enter Tryz.func103, Tryz.ntmps103
    go_wp2
    go_ret
    exact ⟨⟨18446744073709551615, by omega, by omega, rfl⟩, rfl⟩
  · have p := eq_false (show ¬ 20 < dp by omega)
    go_enter Tryz.func103, Tryz.ntmps103
    go_upto_block 0 with fail
    go_cut [3, 4] from 10 to 36 (fun i n wx => ∃ (k : Nat) (N : Int), i = .int .i64 (k : Int) ∧ k ≤ 20 ∧ n = .int .u64 N ∧ 0 ≤ N ∧ N < 18446744073709551616 ∧ w = wx)
    case first =>
      go_wp2_with fail
      go_loopw [3, 4] (fun i n wr => ∃ (k : Nat) (N : Int), i = .int .i64 (k : Int) ∧ k ≤ 20 ∧ n = .int .u64 N ∧ 0 ≤ N ∧ N < 18446744073709551616 ∧ w = wr) (fun i _ _ => 20 - (RowKit.intOf i).toNat)
      case atStart => exact ⟨0, 0, rfl, by omega, rfl, by omega, by omega, rfl⟩
      case round =>
        obtain ⟨k, N, rfl, hk, rfl, hN0, hN1, rfl⟩ := hrel
        have HN := Aside0.mk (show 0 ≤ N ∧ N < 18446744073709551616 from ⟨hN0, hN1⟩)
        rcases Int.lt_or_le (k : Int) dp with h1 | h1
        · have q1 := eq_true h1
          rcases Nat.lt_or_ge k nd with h2 | h2
          · have q2 := eq_true (show (k : Int) < (nd : Int) by omega)
            have q3 := eq_true (show k < 800 by omega)
            have q2' := eq_true h2
            have c2 := HD.out.dec.cell k (by omega)
            have hdg := HD.out.digs k h2
            obtain ⟨y, hy⟩ : ∃ y, f k = y := ⟨_, rfl⟩
            rw [hy] at c2 hdg
            have MS := Aside0.mk (show 20 - ((k : Int) + 1).toNat < 20 - (k : Int).toNat by omega)
            have HK := Aside0.mk (show k + 1 ≤ 20 by omega)
            clear hy h2
            go_wp2
            go_roundw
            case measure => exact MS.out
            case rel => exact ⟨k + 1, _, rfl, HK.out, rfl, (wrap_rng _).1, (wrap_rng _).2, trivial⟩
          · have q2 := eq_false (show ¬ (k : Int) < (nd : Int) by omega)
            have q2' := eq_false (show ¬ k < nd by omega)
            have HK := Aside0.mk hk
            clear h2 hk
            go_wp2_with fail
            go_meet
            case rel => exact ⟨k, N, rfl, HK.out, rfl, HN.out.1, HN.out.2, rfl⟩
        · have q1 := eq_false (show ¬ (k : Int) < dp by omega)
          have HK := Aside0.mk hk
          clear hk
          go_wp2_with fail
          go_meet
          case rel => exact ⟨k, N, rfl, HK.out, rfl, HN.out.1, HN.out.2, rfl⟩
    case rest =>
      obtain ⟨k0, N0, rfl, hk0, rfl, hN0, hN1, rfl⟩ := hcut
      go_wp2_with fail
      go_loopw [3, 4] (fun i n wr => ∃ (k : Nat) (N : Int), i = .int .i64 (k : Int) ∧ k ≤ 20 ∧ n = .int .u64 N ∧ 0 ≤ N ∧ N < 18446744073709551616 ∧ w = wr) (fun i _ _ => 20 - (RowKit.intOf i).toNat)
      case atStart => exact ⟨k0, N0, rfl, hk0, rfl, hN0, hN1, rfl⟩
      case round =>
        clear hk0 hN0 hN1
        obtain ⟨k, N, rfl, hk, rfl, hN0, hN1, rfl⟩ := hrel
        have HN := Aside0.mk (show 0 ≤ N ∧ N < 18446744073709551616 from ⟨hN0, hN1⟩)
        rcases Int.lt_or_le (k : Int) dp with h1 | h1
        · have q1 := eq_true h1
          have MS := Aside0.mk (show 20 - ((k : Int) + 1).toNat < 20 - (k : Int).toNat by omega)
          have HK := Aside0.mk (show k + 1 ≤ 20 by omega)
          clear hN0 hN1
          go_wp2
          go_roundw
          case measure => exact MS.out
          case rel => exact ⟨k + 1, _, rfl, HK.out, rfl, (wrap_rng _).1, (wrap_rng _).2, trivial⟩
        · have q1 := eq_false (show ¬ (k : Int) < dp by omega)
          clear hN0 hN1 hk
          go_wp2_with fail
          refine (HRU.out _).mono ?_
          rintro e w' ⟨⟨b, rfl⟩, rfl⟩
          cases b
          · go_wp2
            go_ret
            exact ⟨⟨N, HN.out.1, HN.out.2, rfl⟩, rfl⟩
          · go_wp2
            go_ret
            exact ⟨⟨_, (wrap_rng _).1, (wrap_rng _).2, rfl⟩, rfl⟩
end Go.Proofs.YtjniglmijikojaaGreatDoor.Text
namespace Go
/-- As Q; a goto goes on behind its label. -/
def Exit.inl (c : Code) (P : Program) (Q : Exit → Act → World → Prop) : Exit → Act → World → Prop
  | .goto l, a, w => ∃ rest, findLabel c l = some rest ∧ rest.wp P (Exit.noGoto Q) a w
  | e, a, w => Q e a w
section
variable {P : Program} {a : Act} {w : World} {Q : Exit → Act → World → Prop}
theorem wp_scope_inl {c : Code} (first : c.wp P (Exit.inl c P Q) a w) : (Code.scope c).wp P Q a w := by
  intro b k cs
  obtain ⟨e, a₁, w₁, hq, harr⟩ := first b (.inScope c :: k) cs
  cases e with
  | normal => exact ⟨.normal, a₁, w₁, hq, .head step_scope (Steps.trans harr (.one step_inScope))⟩
  | exit id => exact ⟨.exit id, a₁, w₁, hq, fun k' hk => .head step_scope (harr k' (by simp [exitTo, hk]))⟩
  | goto l =>
    obtain ⟨rest, hf, hp⟩ := hq
    have hg : gotoIn l (.inScope c :: k) = some (.code rest :: .inScope c :: k) := by simp [gotoIn, hf]
    obtain ⟨e₂, a₂, w₂, hq₂, harr₂⟩ := hp b (.inScope c :: k) cs
    have h1 := Steps.head step_scope (harr _ hg)
    cases e₂ with
    | normal => exact ⟨.normal, a₂, w₂, hq₂, Steps.trans h1 (Steps.trans harr₂ (.one step_inScope))⟩
    | exit id => exact ⟨.exit id, a₂, w₂, hq₂, fun k' hk => Steps.trans h1 (harr₂ k' (by simp [exitTo, hk]))⟩
    | goto l => exact hq₂.elim
    | ret => exact ⟨_, a₂, w₂, hq₂, .of_steps h1 harr₂⟩
    | panic ch => exact ⟨_, a₂, w₂, hq₂, .of_steps h1 harr₂⟩
    | outgrown => exact ⟨_, a₂, w₂, hq₂, .of_steps h1 harr₂⟩
  | ret => exact ⟨_, a₁, w₁, hq, .of_steps (.one step_scope) harr⟩
  | panic ch => exact ⟨_, a₁, w₁, hq, .of_steps (.one step_scope) harr⟩
  | outgrown => exact ⟨_, a₁, w₁, hq, .of_steps (.one step_scope) harr⟩
theorem wp_scope_hid {c : Code} (first : ∀ J : Exit → Act → World → Prop, (∀ l a w, (∃ rest, findLabel c l = some rest ∧ rest.wp P (Exit.noGoto Q) a w) → J (.goto l) a w) → c.wp P J a w) : (Code.scope c).wp P Q a w :=
  wp_scope_inl (first _ fun _ _ _ h => h)
end
end Go
namespace Go.Proofs.YtjniglmijikojaaGreatDoor.Text
set_option linter.unusedSimpArgs false
set_option linter.unusedVariables false
open Go.RowKit Go.Lib Go.Proofs.YtjniglmijikojaaGreatDoor.Own Go.Proofs.YtjniglmijikojaaGreatDoorW.PrintWords

/-- What floatBits tells. -/
def BitRes (g : Nat) (w : World) (e : Ending) (w' : World) : Prop := (∃ (m : Int) (ov : Bool), 0 ≤ m ∧ m < 18446744073709551616 ∧ e = .returned (.tuple #[.int .u64 m, .bool ov])) ∧ Below g w w'

theorem bits_rng (op : BinOp) (x y : Int) : 0 ≤ bits op .u64 x y ∧ bits op .u64 x y < 18446744073709551616 := by
  unfold bits
  exact wrap_rng _

set_option maxRecDepth 30000 in
set_option maxHeartbeats 4000000 in
theorem bits_0 (w : World) (g : Nat) (f : Nat → Int) (dp : Int) (hd : Dec w g f 0 dp) (ht : TabG g w) :
    Calls Tryz.prog 87 #[.pointer (some ⟨g, 0, none⟩), .pointer (some ⟨6, 0, none⟩)] w (BitRes g w) := by
  have c0 : w.cell? ⟨g, 800, none⟩ = some (.int .i64 0) := hd.nd
  obtain ⟨sg, c3⟩ := hd.neg
  have hlt := hd.lt
  have hfz := hd.fz
  have i0 := ht.tabs.i0
  have i1 := ht.tabs.i1
  have i2 := ht.tabs.i2
  have h6 : 6 < w.heap.size := by have := ht.tabs.big; omega
  clear hd ht
  go_enter Tryz.func87, Tryz.ntmps87
  go_wp2
  refine wp_scope_hid ?_
  intro J HJ
  have HG := Aside0.mk HJ
  clear HJ
  go_wp2
  go_step3
  refine HG.out 0 _ _ ⟨_, rfl, ?_⟩
  obtain ⟨A, hA⟩ : ∃ A, bits .and .u64 0 4503599627370495 = A := ⟨_, rfl⟩
  obtain ⟨B, hB⟩ : ∃ B, bits .and .i64 0 2047 = B := ⟨_, rfl⟩
  obtain ⟨C0, hC0⟩ : ∃ C0, IntKind.u64.wrap B = C0 := ⟨_, rfl⟩
  obtain ⟨C, hC⟩ : ∃ C, IntKind.u64.wrap (C0 * 4503599627370496) = C := ⟨_, rfl⟩
  obtain ⟨R, hR⟩ : ∃ R, bits .or .u64 A C = R := ⟨_, rfl⟩
  have HR := Aside0.mk (show 0 ≤ R ∧ R < 18446744073709551616 by rw [← hR]; exact bits_rng _ _ _)
  obtain ⟨R2, hR2⟩ : ∃ R2, bits .or .u64 R 9223372036854775808 = R2 := ⟨_, rfl⟩
  have HR2 := Aside0.mk (show 0 ≤ R2 ∧ R2 < 18446744073709551616 by rw [← hR2]; exact bits_rng _ _ _)
  go_wp2
  go_region
  cases sg
  · go_wp2
    rw [Exit.noGoto_ret]
    go_ret2
    exact ⟨⟨R, false, HR.out.1, HR.out.2, rfl⟩, by first | exact Below.refl _ _ | exact (Below.refl _ _).drew | exact ((Below.refl _ _).drew).drew | exact (((Below.refl _ _).drew).drew).drew⟩
  · go_wp2
    go_region
    go_wp2
    rw [Exit.noGoto_ret]
    go_ret2
    exact ⟨⟨R2, false, HR2.out.1, HR2.out.2, rfl⟩, by first | exact Below.refl _ _ | exact (Below.refl _ _).drew | exact ((Below.refl _ _).drew).drew | exact (((Below.refl _ _).drew).drew).drew⟩

theorem pow_ok (j : Nat) (h1 : 1 ≤ j) (h2 : j ≤ 8) : ∃ pn : Nat, powAt j = .int .i64 (pn : Int) ∧ 3 ≤ pn ∧ pn ≤ 27 ∧ (j = 1 → pn = 3) ∧ (2 ≤ j → 4 ≤ pn) := by
  rcases (show j = 1 ∨ j = 2 ∨ j = 3 ∨ j = 4 ∨ j = 5 ∨ j = 6 ∨ j = 7 ∨ j = 8 by omega) with rfl | rfl | rfl | rfl | rfl | rfl | rfl | rfl
  · exact ⟨3, rfl, by omega, by omega, fun _ => rfl, fun h => by omega⟩
  · exact ⟨6, rfl, by omega, by omega, fun h => by omega, fun _ => by omega⟩
  · exact ⟨9, rfl, by omega, by omega, fun h => by omega, fun _ => by omega⟩
  · exact ⟨13, rfl, by omega, by omega, fun h => by omega, fun _ => by omega⟩
  · exact ⟨16, rfl, by omega, by omega, fun h => by omega, fun _ => by omega⟩
  · exact ⟨19, rfl, by omega, by omega, fun h => by omega, fun _ => by omega⟩
  · exact ⟨23, rfl, by omega, by omega, fun h => by omega, fun _ => by omega⟩
  · exact ⟨26, rfl, by omega, by omega, fun h => by omega, fun _ => by omega⟩
theorem dl_ge {k dl : Nat} {s : List Nat} (h : Cheat k dl s) (m : Nat) (hm : 5 ^ k < 10 ^ m) : k + 1 - m ≤ dl := by
  have h1 := h.lo
  have h2 := h.sum
  have h3 : s.length - 1 < m := by
    rcases Nat.lt_or_ge (s.length - 1) m with g | g
    · exact g
    · have := Nat.pow_le_pow_right (n := 10) (by omega) g
      omega
  omega
theorem dl_le {k dl : Nat} {s : List Nat} (h : Cheat k dl s) : dl ≤ k := by
  have h2 := h.sum
  have := h.pos
  omega
theorem pow_ok2 (j : Nat) (h2 : j ≤ 8) : ∃ (pn dl : Nat) (s : List Nat), powAt j = .int .i64 (pn : Int) ∧ 1 ≤ pn ∧ pn ≤ 27 ∧ Cheat pn dl s ∧ (2 ≤ j → 2 ≤ dl) := by
  have mk : ∀ pn m : Nat, 1 ≤ pn → pn ≤ 27 → powAt j = .int .i64 (pn : Int) → (2 ≤ j → 5 ^ pn < 10 ^ m ∧ 2 ≤ pn + 1 - m) → ∃ (pn dl : Nat) (s : List Nat), powAt j = .int .i64 (pn : Int) ∧ 1 ≤ pn ∧ pn ≤ 27 ∧ Cheat pn dl s ∧ (2 ≤ j → 2 ≤ dl) := by
    intro pn m a b c d
    obtain ⟨dl, s, hc⟩ := cheat_of pn a (by omega)
    refine ⟨pn, dl, s, c, a, b, hc, fun h => ?_⟩
    have := dl_ge hc m (d h).1
    have := (d h).2
    omega
  rcases (show j = 0 ∨ j = 1 ∨ j = 2 ∨ j = 3 ∨ j = 4 ∨ j = 5 ∨ j = 6 ∨ j = 7 ∨ j = 8 by omega) with rfl | rfl | rfl | rfl | rfl | rfl | rfl | rfl | rfl
  · exact mk 1 0 (by omega) (by omega) rfl (fun h => by omega)
  · exact mk 3 0 (by omega) (by omega) rfl (fun h => by omega)
  · exact mk 6 5 (by omega) (by omega) rfl (fun _ => by decide)
  · exact mk 9 7 (by omega) (by omega) rfl (fun _ => by decide)
  · exact mk 13 10 (by omega) (by omega) rfl (fun _ => by decide)
  · exact mk 16 12 (by omega) (by omega) rfl (fun _ => by decide)
  · exact mk 19 14 (by omega) (by omega) rfl (fun _ => by decide)
  · exact mk 23 17 (by omega) (by omega) rfl (fun _ => by decide)
  · exact mk 26 19 (by omega) (by omega) rfl (fun _ => by decide)
/-- The table of shifts. -/
theorem TabG.pow {g : Nat} {w : World} (h : TabG g w) : ∃ B o c, B ≠ g ∧ (10 : Nat) ≠ g ∧ 10 < w.heap.size ∧ B < w.heap.size ∧ w.cell? ⟨10, 0, none⟩ = some (.slice (some ⟨B, o, none⟩) 9 c) ∧ ∀ i, i < 9 → w.cell? ⟨B, o + i, none⟩ = some (powAt i) := by
  obtain ⟨w0, h1, h2, h3⟩ := h
  obtain ⟨l1, B, o, c, l2, l3, l4⟩ := h1.pt
  have := h3.size
  refine ⟨B, o, c, by omega, by omega, by omega, by omega, ?_, fun i hi => ?_⟩
  · rw [h3.cell l1]; exact l2
  · rw [h3.cell l3]; exact l4 i (by omega)

theorem Fine.drew {w : World} {g : Nat} {f : Nat → Int} {nd : Nat} {dp : Int} (h : Fine w g f nd dp) : Fine w.drew g f nd dp := ⟨h.dec.drew, h.pos, h.le, h.digs, h.top⟩
theorem tabg_drew {g : Nat} {w : World} (h : TabG g w) : TabG g w.drew := h.step ((Below.refl g w).drew)
theorem bdrew_ {g : Nat} {w w' : World} (h : Below g w.drew.drew w') : Below g w w' := ((Below.refl g w).drew.drew).trans h
theorem below_drew1 {g : Nat} {w w' : World} (h : Below g w.drew w') : Below g w w' := (Below.refl g w).drew.trans h
/-- What the end of floatBits reads. -/
structure TailW (g : Nat) (w wx : World) : Prop where
  neg : ∃ b, wx.cell? ⟨g, 802, none⟩ = some (.bool b)
  lt : g < wx.heap.size
  fz : ∀ i, wx.frozen? ⟨g, i, none⟩ = false
  i0 : wx.cell? ⟨6, 0, none⟩ = some (.int .u64 52)
  i1 : wx.cell? ⟨6, 1, none⟩ = some (.int .u64 11)
  i2 : wx.cell? ⟨6, 2, none⟩ = some (.int .i64 (-1023))
  h6 : 6 < wx.heap.size
  bel : Below g w wx
theorem TailW.drew {g : Nat} {w wx : World} (h : TailW g w wx) : TailW g w wx.drew := ⟨h.neg, h.lt, h.fz, h.i0, h.i1, h.i2, h.h6, h.bel.drew⟩
theorem tailw_of {g : Nat} {w wx : World} {f : Nat → Int} {nd : Nat} {dp : Int} (h : Fine wx g f nd dp) (ht : TabG g w) (hb : Below g w wx) : TailW g w wx :=
  let t := (ht.step hb).tabs
  ⟨h.dec.neg, h.dec.lt, h.dec.fz, t.i0, t.i1, t.i2, by have := t.big; omega, hb⟩
/-- How far the first loop is. -/
def mu1 (f : Nat → Int) (dp : Int) : Int := 2 * dp + (if 56 ≤ f 0 then 1 else 0)
theorem mu1_step {f f' : Nat → Int} {dp dp' : Int} {k gk : Nat} (h : mu1 f dp ≤ gk) (hp : 0 < dp) (hk : 4 ≤ k → dp' < dp) (hk3 : k = 3 → dp' < dp ∨ (dp' = dp ∧ 56 ≤ f 0 ∧ f' 0 = 49)) (hk2 : 3 ≤ k) : 1 ≤ gk ∧ mu1 f' dp' ≤ (gk - 1 : Nat) := by
  unfold mu1 at *
  rcases (show k = 3 ∨ 4 ≤ k by omega) with e | e
  · rcases hk3 e with h1 | ⟨h1, h2, h3⟩
    · split <;> split at h <;> omega
    · rw [if_pos h2] at h
      rw [if_neg (by omega)]
      omega
  · have := hk e
    split <;> split at h <;> omega
/-- How far the second loop is. -/
def mu2 (f : Nat → Int) (dp : Int) : Int := if dp ≤ 0 then 10 * (-dp) + (57 - f 0) else 0
theorem mu2_step {f f' : Nat → Int} {dp : Int} {δ gk : Nat} (h : mu2 f dp ≤ gk) (hp : dp ≤ 0) (hc : dp < 0 ∨ f 0 < 53) (hf : f 0 ≤ 57) (hf1 : 49 ≤ f' 0) (h1 : δ = 0 → f 0 < f' 0) : 1 ≤ gk ∧ mu2 f' (dp + (δ : Int)) ≤ (gk - 1 : Nat) := by
  unfold mu2 at *
  rw [if_pos hp] at h
  rcases Nat.eq_zero_or_pos δ with e | e
  · have := h1 e
    split <;> omega
  · split <;> omega

end Go.Proofs.YtjniglmijikojaaGreatDoor.Text
namespace Go.Proofs.YtjniglmijikojaaGreatDoor.Own

/-- 10^p lies between 2^l2 p and twice that, and not near the latter. -/
def okL (p : Int) : Bool := decide (nB (-2 - l2 p) p ≤ nA (-2 - l2 p) p) && decide (2097152 * nA (-2 - l2 p) p ≤ 4194302 * nB (-2 - l2 p) p) && decide (-1200 ≤ l2 p) && decide (l2 p ≤ 1100)
theorem l_0 : (List.range 656).all (fun i => okL (((0 + i : Nat) : Int) - 345)) = true := by decide +kernel
theorem okL_all (p : Int) (h1 : -345 ≤ p) (h2 : p ≤ 310) : okL p = true := by
  obtain ⟨i, rfl⟩ : ∃ i : Nat, p = (i : Int) - 345 := ⟨(p + 345).toNat, by omega⟩
  exact all_at (f := fun i => okL ((i : Int) - 345)) l_0 i (by omega) (by omega)
/-- Long mantissas go with few exponents. -/
def okQ (p : Int) : Bool := okTab (-11 - l2 p) p && okNear (-11 - l2 p) p 1 18446744073709551616
theorem q_0 : (List.range 23).all (fun i => okQ (((0 + i : Nat) : Int) - 0)) = true := by decide +kernel
theorem okQ_all (p : Int) (h1 : 0 ≤ p) (h2 : p ≤ 22) : okQ p = true := by
  obtain ⟨i, rfl⟩ : ∃ i : Nat, p = (i : Int) - 0 := ⟨p.toNat, by omega⟩
  exact all_at (f := fun i => okQ ((i : Int) - 0)) q_0 i (by omega) (by omega)

theorem rnd_at {T B M : Nat} (hB : 0 < B) (hM : 0 < M) (h1 : (4 * M - 2) * B ≤ T) (h2 : T ≤ (4 * M + 2) * B) (h3 : M % 2 = 1 → (4 * M - 2) * B < T ∧ T < (4 * M + 2) * B) :
    rnd (unr T B) = M ∧ unr T B ≤ 4 * M + 2 ∧ (M % 2 = 1 → unr T B ≤ 4 * M + 1) := by
  have k1 : 4 * M - 2 ≤ T / B := (Nat.le_div_iff_mul_le hB).2 h1
  rcases unr_cases T B hB with ⟨e1, e2⟩ | ⟨e1, _, e2⟩
  · have k2 : T / B ≤ 4 * M + 2 := Nat.le_of_mul_le_mul_right (by omega : T / B * B ≤ (4 * M + 2) * B) hB
    have k3 : M % 2 = 1 → 4 * M - 2 < T / B ∧ T / B < 4 * M + 2 := fun h => by
      have := h3 h
      exact ⟨Nat.lt_of_mul_lt_mul_right (a := B) (by omega), Nat.lt_of_mul_lt_mul_right (a := B) (by omega)⟩
    rw [e2]
    unfold rnd
    generalize T / B = q at *
    rcases Nat.mod_two_eq_zero_or_one M with h | h
    · have : q = 4 * M - 2 ∨ q = 4 * M - 1 ∨ q = 4 * M ∨ q = 4 * M + 1 ∨ q = 4 * M + 2 := by omega
      rcases this with h | h | h | h | h <;> subst h <;> omega
    · have := k3 h
      have : q = 4 * M - 1 ∨ q = 4 * M ∨ q = 4 * M + 1 := by omega
      rcases this with h | h | h <;> subst h <;> omega
  · have k2 : T / B < 4 * M + 2 := Nat.lt_of_mul_lt_mul_right (a := B) (by omega)
    rw [e2]
    unfold rnd
    generalize T / B = q at *
    omega
def half (u : Nat) : Nat := u / 2 ||| u % 2
theorem half_eq (u : Nat) : half u = if u % 2 = 0 then u / 2 else u / 2 / 2 * 2 + 1 := by
  unfold half
  rcases Nat.mod_two_eq_zero_or_one u with h | h
  · rw [h, if_pos rfl, Nat.or_zero]
  · rw [h, if_neg (by omega), or_one]
theorem rnd_half {T B M c : Nat} (hB : 0 < B) (hM : 0 < M) (hc : c ≤ 2) (h1 : (4 * M - c) * 2 * B ≤ T) (h2 : T ≤ (4 * M + 2) * 2 * B) (h3 : M % 2 = 1 → (4 * M - 2) * 2 * B < T ∧ T < (4 * M + 2) * 2 * B) :
    rnd (half (unr T B)) = M ∧ (4 * M - c) * 2 ≤ unr T B := by
  have k1 : (4 * M - c) * 2 ≤ T / B := (Nat.le_div_iff_mul_le hB).2 h1
  rw [half_eq]
  rcases unr_cases T B hB with ⟨e1, e2⟩ | ⟨e1, _, e2⟩
  · have k2 : T / B ≤ (4 * M + 2) * 2 := Nat.le_of_mul_le_mul_right (by omega : T / B * B ≤ (4 * M + 2) * 2 * B) hB
    have k3 : M % 2 = 1 → (4 * M - 2) * 2 < T / B ∧ T / B < (4 * M + 2) * 2 := fun h => by
      have := h3 h
      exact ⟨Nat.lt_of_mul_lt_mul_right (a := B) (by omega), Nat.lt_of_mul_lt_mul_right (a := B) (by omega)⟩
    rw [e2]
    unfold rnd
    generalize T / B = q at *
    rcases Nat.mod_two_eq_zero_or_one M with h | h
    · split <;> omega
    · have := k3 h
      split <;> omega
  · have k2 : T / B < (4 * M + 2) * 2 := Nat.lt_of_mul_lt_mul_right (a := B) (by omega)
    rw [e2]
    unfold rnd
    generalize T / B = q at *
    split <;> omega

theorem okL_spec {p : Int} (h : okL p = true) (hp : inr p) : pw (l2 p) 0 ≤ pw 0 p ∧ 2097152 * pw 0 p ≤ 4194302 * pw (l2 p) 0 ∧ -1200 ≤ l2 p ∧ l2 p ≤ 1100 := by
  simp only [okL, Bool.and_eq_true, decide_eq_true_eq] at h
  obtain ⟨⟨⟨h1, h2⟩, h3⟩, h4⟩ := h
  have i1 : inr (-2 - l2 p) := by unfold inr; omega
  have i0 : inr 0 := by unfold inr; omega
  have il : inr (l2 p) := by unfold inr; omega
  have a1 := (nAB_ge i1 hp 1 1).1 (by omega)
  have a2 := (nAB_le i1 hp 2097152 4194302).1 h2
  have t1 := pw_le2 (K := 1) (K' := 1) (a := 0) (P := 0) (a' := -2 - l2 p + 2) (P' := p) (l2 p) i0 i0 (by unfold inr; omega) hp (by rw [Int.zero_add]; exact il) (by unfold inr; omega)
  have t2 := pw_le2 (K := 2097152) (K' := 4194302) (a := -2 - l2 p + 2) (P := p) (a' := 0) (P' := 0) (l2 p) (by unfold inr; omega) hp i0 i0 (by unfold inr; omega) (by rw [Int.zero_add]; exact il)
  rw [show -2 - l2 p + 2 + l2 p = 0 by omega, Int.zero_add] at t1 t2
  have b1 := t1.2 a1
  have b2 := t2.2 a2
  exact ⟨by omega, b2, h3, h4⟩

theorem pw_mono {a a' : Int} (P : Int) (h : a ≤ a') (ha : inr a) (hP : inr P) : pw a P ≤ pw a' P := by
  have h1 := pw_two (a := a) (P := P) (a' - a).toNat ha hP
  rw [show a + ((a' - a).toNat : Int) = a' by omega] at h1
  rw [h1]
  exact Nat.le_mul_of_pos_left _ (Nat.pow_pos (by omega))
theorem pw_at (a a' : Int) (i : Nat) (h : a' = a + i) (ha : inr a) : 2 ^ i * pw a 0 = pw a' 0 := by
  rw [h, pw_two i ha (by unfold inr; omega)]

/-- What the number that is read lies between, at the scale of the product. -/
theorem t_ge {K d b : Nat} {E p : Int} (hb : b ≤ 64) (hE : -1200 ≤ E ∧ E ≤ 1200) (hp : inr p) : K * nB (E - (64 - b)) p ≤ d * 2 ^ (64 - b) * nA (E - (64 - b)) p ↔ K * pw 0 0 ≤ d * pw (E + 2) p := by
  have i1 : inr (E - (64 - b)) := by unfold inr; omega
  rw [nAB_ge i1 hp, Nat.mul_assoc d, ← pw_two (64 - b) (by unfold inr; omega) hp, show E - (64 - (b : Int)) + 2 + ((64 - b : Nat) : Int) = E + 2 by omega]
theorem t_le {K d b : Nat} {E p : Int} (hb : b ≤ 64) (hE : -1200 ≤ E ∧ E ≤ 1200) (hp : inr p) : d * 2 ^ (64 - b) * nA (E - (64 - b)) p ≤ K * nB (E - (64 - b)) p ↔ d * pw (E + 2) p ≤ K * pw 0 0 := by
  have i1 : inr (E - (64 - b)) := by unfold inr; omega
  rw [nAB_le i1 hp, Nat.mul_assoc d, ← pw_two (64 - b) (by unfold inr; omega) hp, show E - (64 - (b : Int)) + 2 + ((64 - b : Nat) : Int) = E + 2 by omega]

theorem d2core {d B u v : Nat} (h1 : d ≤ B) (h2 : 2097152 * u ≤ 4194302 * v) : 2097152 * d * u ≤ 4194302 * B * v := by
  calc 2097152 * d * u = d * (2097152 * u) := by ac_rfl
    _ ≤ B * (4194302 * v) := Nat.mul_le_mul h1 h2
    _ = _ := by ac_rfl
def pE (b : Nat) (p : Int) : Int := min 1074 (53 - b - l2 p)

theorem parse_in (M : Nat) (q : Int) (d b : Nat) (p : Int) (hM : 0 < M) (hM2 : M < 9007199254740992) (hq1 : -1074 ≤ q) (hq2 : q ≤ 971) (hn : 4503599627370496 ≤ M ∨ q = -1074)
    (hb1 : 1 ≤ b) (hb : b ≤ 64) (hd1 : 2 ^ (b - 1) ≤ d) (hd2 : d < 2 ^ b) (hp1 : -345 ≤ p) (hp2 : p ≤ 310) (hbp : b ≤ 57 ∨ (0 ≤ p ∧ p ≤ 22)) (hx : InX M q d p) :
    -(pE b p - (64 - b) + l2 p + 3) < 64 ∧ 0 ≤ -(pE b p - (64 - b) + l2 p + 3) ∧
    ((usc (row10 p).1 (row10 p).2 (sh (pE b p - (64 - b)) p) (d * 2 ^ (64 - b)) < 36028797018963966 ∧ pE b p = -q ∧ rnd (usc (row10 p).1 (row10 p).2 (sh (pE b p - (64 - b)) p) (d * 2 ^ (64 - b))) = M) ∨
     (36028797018963966 ≤ usc (row10 p).1 (row10 p).2 (sh (pE b p - (64 - b)) p) (d * 2 ^ (64 - b)) ∧ pE b p - 1 = -q ∧ rnd (half (usc (row10 p).1 (row10 p).2 (sh (pE b p - (64 - b)) p) (d * 2 ^ (64 - b)))) = M)) := by
  have ip : inr p := by unfold inr; omega
  have i0 : inr 0 := by unfold inr; omega
  have i2 : inr 2 := by unfold inr; omega
  have iq : inr q := by unfold inr; omega
  obtain ⟨L1, L2, L3, L4⟩ := okL_spec (okL_all p hp1 hp2) ip
  have il : inr (l2 p) := by unfold inr; omega
  have hE1 : pE b p ≤ 1074 := by unfold pE; omega
  have hE2 : pE b p ≤ 53 - b - l2 p := by unfold pE; omega
  have hE3 : pE b p = 1074 ∨ pE b p = 53 - b - l2 p := by unfold pE; omega
  obtain ⟨E, hE⟩ : ∃ E, pE b p = E := ⟨_, rfl⟩
  rw [hE] at hE1 hE2 hE3 ⊢
  have hEr : -1200 ≤ E ∧ E ≤ 1200 := by omega
  obtain ⟨c, hc⟩ : ∃ c, c = if M = 4503599627370496 ∧ -1074 < q then 1 else 2 := ⟨_, rfl⟩
  have hc1 : 1 ≤ c ∧ c ≤ 2 := by rw [hc]; split <;> omega
  obtain ⟨x1, x2, x3⟩ := hx
  have x1 : (4 * M - c) * pw q 0 ≤ d * pw 2 p := by
    rw [hc]
    split
    · rename_i h; rw [if_pos h] at x1; exact x1
    · rename_i h; rw [if_neg h] at x1; exact x1
  -- at the scale of E
  have sft : ∀ K, K * pw q 0 ≤ d * pw 2 p ↔ K * pw (q + E) 0 ≤ d * pw (E + 2) p := fun K => by
    have h := pw_le2 (K := K) (K' := d) (a := q) (P := 0) (a' := 2) (P' := p) E iq i0 i2 ip (by unfold inr; omega) (by unfold inr; omega)
    rw [Int.add_comm 2 E] at h
    exact h.symm
  have sft' : ∀ K, d * pw 2 p ≤ K * pw q 0 ↔ d * pw (E + 2) p ≤ K * pw (q + E) 0 := fun K => by
    have h := pw_le2 (K := d) (K' := K) (a := 2) (P := p) (a' := q) (P' := 0) E i2 ip iq i0 (by unfold inr; omega) (by unfold inr; omega)
    rw [Int.add_comm 2 E] at h
    exact h.symm
  have y1 := (sft _).1 x1
  have y2 := (sft' _).1 x2
  -- the size of d * 10^p
  have D1 : 2 ^ (b - 1) * pw (l2 p + E + 2) 0 ≤ d * pw (E + 2) p := by
    have h : 2 ^ (b - 1) * pw (l2 p) 0 ≤ d * pw 0 p := Nat.mul_le_mul hd1 L1
    have h2 := (pw_le2 (K := 2 ^ (b - 1)) (K' := d) (a := l2 p) (P := 0) (a' := 0) (P' := p) (E + 2) il i0 i0 ip (by unfold inr; omega) (by unfold inr; omega)).2 h
    rw [show l2 p + (E + 2) = l2 p + E + 2 by omega, Int.zero_add] at h2
    exact h2
  have D2 : 2097152 * (d * pw (E + 2) p) ≤ 4194302 * (2 ^ b * pw (l2 p + E + 2) 0) := by
    have h : 2097152 * d * pw 0 p ≤ 4194302 * 2 ^ b * pw (l2 p) 0 := by
      exact d2core (Nat.le_of_lt hd2) L2
    have h2 := (pw_le2 (K := 2097152 * d) (K' := 4194302 * 2 ^ b) (a := 0) (P := p) (a' := l2 p) (P' := 0) (E + 2) i0 ip il i0 (by unfold inr; omega) (by unfold inr; omega)).2 h
    rw [show l2 p + (E + 2) = l2 p + E + 2 by omega, Int.zero_add, Nat.mul_assoc, Nat.mul_assoc] at h2
    exact h2
  have eb : 2 ^ b * pw (l2 p + E + 2) 0 = pw (l2 p + E + 2 + b) 0 := pw_at _ _ b rfl (by unfold inr; omega)
  rw [eb] at D2
  have Z : ∀ {a : Int} , inr a → 0 < pw a 0 := fun _ => pw_pos _ _
  -- the exponent is right, or one above
  have hj : 0 ≤ q + E := by
    rcases hE3 with h | h
    · omega
    · rcases (show q + E < 0 ∨ 0 ≤ q + E by omega) with h' | h'
      · exfalso
        have e1 : 2 ^ (b - 1) * pw (l2 p + E + 2) 0 = pw 54 0 := pw_at _ _ (b - 1) (by omega) (by unfold inr; omega)
        have e2 : 2 ^ 55 * pw (-1) 0 = pw 54 0 := pw_at _ _ 55 (by omega) (by unfold inr; omega)
        have e3 := pw_mono (a := q + E) (a' := -1) 0 (by omega) (by unfold inr; omega) i0
        have e4 : (4 * M + 2) * pw (q + E) 0 ≤ (4 * M + 2) * pw (-1) 0 := Nat.mul_le_mul_left _ e3
        rw [e1, ← e2] at D1
        have e5 : 2 ^ 55 * pw (-1) 0 ≤ (4 * M + 2) * pw (-1) 0 := by omega
        have e6 := Nat.le_of_mul_le_mul_right e5 (pw_pos _ _)
        have : (2 : Nat) ^ 55 = 36028797018963968 := by decide
        omega
      · exact h'
  have hj2 : q + E ≤ 1 ∧ (M < 4503599627370496 → q + E ≤ 0) := by
    rcases hn with hn | hn
    · refine ⟨?_, fun h => by omega⟩
      rcases (show 1 < q + E ∨ q + E ≤ 1 by omega) with h' | h'
      · exfalso
        have e1 : 2 ^ 53 * pw 2 0 = pw 55 0 := pw_at _ _ 53 (by omega) i2
        have e2 := pw_mono (a := 2) (a' := q + E) 0 (by omega) i2 i0
        have e3 := pw_mono (a := l2 p + E + 2 + b) (a' := 55) 0 (by omega) (by unfold inr; omega) i0
        have e4 : (4 * M - c) * pw 2 0 ≤ (4 * M - c) * pw (q + E) 0 := Nat.mul_le_mul_left _ e2
        have e5 : 2097152 * (4 * M - c) * pw 2 0 ≤ 4194302 * 9007199254740992 * pw 2 0 := by
          rw [← e1] at e3
          have : (2 : Nat) ^ 53 = 9007199254740992 := by decide
          rw [this] at e3
          rw [Nat.mul_assoc, Nat.mul_assoc]
          omega
        have e6 := Nat.le_of_mul_le_mul_right e5 (pw_pos _ _)
        omega
      · exact h'
    · exact ⟨by omega, fun _ => by omega⟩
  have hs1 : 0 ≤ -(E - (64 - b) + l2 p + 3) := by omega
  have hs2 : -(E - (64 - b) + l2 p + 3) < 64 := by
    rcases (show -(E - (64 - b) + l2 p + 3) < 64 ∨ 64 ≤ -(E - (64 - b) + l2 p + 3) by omega) with h | h
    · exact h
    · exfalso
      have e1 : 2 ^ 1 * pw (-1) 0 = pw 0 0 := pw_at _ _ 1 (by omega) (by unfold inr; omega)
      have e2 := pw_mono (a := 0) (a' := q + E) 0 hj i0 i0
      have e3 := pw_mono (a := l2 p + E + 2 + b) (a' := -1) 0 (by omega) (by unfold inr; omega) i0
      have e4 : 2 * pw (q + E) 0 ≤ (4 * M - c) * pw (q + E) 0 := Nat.mul_le_mul_right _ (by omega)
      have e5 := pw_pos (-1) 0
      omega
  refine ⟨hs2, hs1, ?_⟩
  -- the product is exact
  have hxW : d * 2 ^ (64 - b) < 18446744073709551616 := by
    have h : 2 ^ b * 2 ^ (64 - b) = 18446744073709551616 := by rw [← Nat.pow_add, show b + (64 - b) = 64 by omega]
    rw [← h]
    exact Nat.mul_lt_mul_of_pos_right hd2 (Nat.pow_pos (by omega))
  have hx2 : 2 ≤ d * 2 ^ (64 - b) := by
    have h : 2 ^ (b - 1) * 2 ^ (64 - b) = 9223372036854775808 := by rw [← Nat.pow_add, show b - 1 + (64 - b) = 63 by omega]
    have := Nat.mul_le_mul_right (2 ^ (64 - b)) hd1
    omega
  have hd0 : 0 < d := Nat.lt_of_lt_of_le (Nat.pow_pos (by omega)) hd1
  have ex : usc (row10 p).1 (row10 p).2 (sh (E - (64 - b)) p) (d * 2 ^ (64 - b)) = unr (d * 2 ^ (64 - b) * nA (E - (64 - b)) p) (nB (E - (64 - b)) p) := by
    by_cases hcl : E = 53 - b - l2 p
    · have he2 : E - (64 - (b : Int)) = -11 - l2 p := by omega
      rw [he2]
      rcases Nat.lt_or_ge 57 b with h57 | h57
      · have ok := okQ_all p (by omega) (by omega)
        simp only [okQ, Bool.and_eq_true] at ok
        have := scaled ok.1 ok.2 (d * 2 ^ (64 - b)) (by omega) (by omega) (by omega) (by omega)
        rw [Nat.mul_one] at this
        exact this
      · have ok := par_all p hp1 hp2
        simp only [okP, Bool.and_eq_true] at ok
        have e7 : d * 2 ^ (64 - b) = d * 2 ^ (57 - b) * 128 := by
          rw [show 64 - b = (57 - b) + 7 by omega, Nat.pow_add, ← Nat.mul_assoc]
        have e8 : d * 2 ^ (57 - b) ≤ 144115188075855872 := by
          have h : 2 ^ b * 2 ^ (57 - b) = 144115188075855872 := by rw [← Nat.pow_add, show b + (57 - b) = 57 by omega]
          rw [← h]
          exact Nat.le_of_lt (Nat.mul_lt_mul_of_pos_right hd2 (Nat.pow_pos (by omega)))
        have := scaled ok.1 ok.2 (d * 2 ^ (57 - b)) (Nat.mul_pos hd0 (Nat.pow_pos (by omega))) e8 (by omega) (by omega)
        rw [← e7] at this
        exact this
    · have hE4 : E = 1074 := by omega
      have hlp : l2 p < -1021 - b := by omega
      have hp150 : p ≤ -150 := by
        unfold l2 at hlp
        omega
      have hb57 : b ≤ 57 := by omega
      have ok := sub_all p hp1 hp150 b (by omega)
      simp only [okS, Bool.or_eq_true, decide_eq_true_eq, Bool.and_eq_true] at ok
      rcases ok with (h | h) | h
      · omega
      · omega
      · have he2 : E - (64 - (b : Int)) = 1010 + b := by omega
        rw [he2]
        exact scaled h.1 h.2 d hd0 (Nat.le_of_lt hd2) hx2 hxW
  rw [ex]
  have hB := nB_pos (E - (64 - b)) p
  rcases (show q + E = 0 ∨ q + E = 1 by omega) with hj0 | hj1
  · left
    rw [hj0] at y1 y2 sft sft'
    have t1 := (t_ge hb hEr ip).2 y1
    have t2 := (t_le hb hEr ip).2 y2
    have r := rnd_at hB hM (Nat.le_trans (Nat.mul_le_mul_right _ (show 4 * M - 2 ≤ 4 * M - c by omega)) t1) t2 (fun h => by
      have hx := x3 h
      constructor
      · refine Nat.lt_of_not_le fun h' => ?_
        have := (sft' _).2 ((t_le hb hEr ip).1 h')
        omega
      · refine Nat.lt_of_not_le fun h' => ?_
        have := (sft _).2 ((t_ge hb hEr ip).1 h')
        omega)
    refine ⟨?_, by omega, r.1⟩
    have r2 := r.2
    generalize unr _ _ = u at *
    rcases Nat.mod_two_eq_zero_or_one M with h | h
    · omega
    · have := r2.2 h
      omega
  · right
    have e1 : 2 ^ 1 * pw 0 0 = pw 1 0 := pw_at _ _ 1 (by omega) i0
    have two : ∀ K : Nat, K * pw 1 0 = K * 2 * pw 0 0 := fun K => by rw [← e1, Nat.pow_one, Nat.mul_assoc]
    rw [hj1, two] at y1 y2
    have t1 := (t_ge hb hEr ip).2 y1
    have t2 := (t_le hb hEr ip).2 y2
    have hM52 : 4503599627370496 ≤ M := by omega
    have r := rnd_half hB hM hc1.2 t1 t2 (fun h => by
      have hx := x3 h
      constructor
      · refine Nat.lt_of_not_le fun h' => ?_
        have h'' := (t_le hb hEr ip).1 h'
        rw [← two, ← hj1] at h''
        have := (sft' _).2 h''
        omega
      · refine Nat.lt_of_not_le fun h' => ?_
        have h'' := (t_ge hb hEr ip).1 h'
        rw [← two, ← hj1] at h''
        have := (sft _).2 h''
        omega)
    refine ⟨?_, by omega, r.1⟩
    have r2 := r.2
    have : c = 1 ∨ 4503599627370496 < M := by
      rcases Nat.lt_or_ge 4503599627370496 M with h | h
      · exact .inr h
      · left
        rw [hc, if_pos ⟨by omega, by omega⟩]
    omega
end Go.Proofs.YtjniglmijikojaaGreatDoor.Own
namespace Go.Proofs.YtjniglmijikojaaGreatDoor.Text
open Go.RowKit Go.Lib Go.Proofs.YtjniglmijikojaaGreatDoor.Own

theorem cell_2 {w : World} {g : Nat} {a b c : Value} {t : Nat} {k : Nat × Nat} (h : w.heap[g]? = some (.cells #[a, b, c] t k)) : w.cell? ⟨g, 2, none⟩ = some c := by simp [World.cell?, h]

set_option maxHeartbeats 4000000 in
theorem parse_lo (d b E p : Int) (U x s S R : Nat) (Q : Nat → Value → Prop) (hd : 0 ≤ d) (hd2 : d < 18446744073709551616) (hb1 : 1 ≤ b) (hb : b ≤ 64) (hp1 : -345 ≤ p) (hp2 : p ≤ 310) (hlr : -2000 ≤ l2 p ∧ l2 p ≤ 2000)
    (hbl : ((Lib.bitLen d.toNat : Nat) : Int) = b) (hE : min 1074 (53 - b - l2 p) = E) (hEr : -1200 ≤ E ∧ E ≤ 1200) (hs0 : s < 64) (hs : -(E - (64 - b) + l2 p + 3) = (s : Int))
    (hx : x < 18446744073709551616) (hx2 : 2 ≤ x) (hdx : IntKind.u64.wrap (d * 2 ^ (64 - b).toNat) = (x : Int)) (hUs : usc (row10 p).1 (row10 p).2 s x = U) (hU : U < 36028797018963966)
    (hR : bits .or .u64 (S : Int) ((rnd (U) : Nat) : Int) = (R : Int)) (hQ : ∀ w, Calls Tryz.prog 104 #[.int .u64 (R : Int), .int .i64 (-(E))] w fun e w' => (∃ f r, e = .returned (.tuple #[.float .f64 f, r]) ∧ Q f r) ∧ w = w')
    (w : World) (ht : Tens w) : Calls Tryz.prog 91 #[.int .u64 d, .int .i64 p, .int .u64 (S : Int)] w fun e w' => (∃ f r, e = .returned (.tuple #[.float .f64 f, r]) ∧ Q f r) ∧ Below w.heap.size w w' := by
  obtain ⟨R1, R2, R3⟩ := row_ok p (by omega) (by omega)
  have LN := Aside0.mk (fun w => hbl ▸ Tryz.bits_Len64 d w hd (by omega))
  have L2 := Aside0.mk (l2_any p (by omega))
  have PS := Aside0.mk (fun w g a b' c ht hg hg7 => prescale_any (E - (64 - b)) p (l2 p) w g a b' c ht hg hg7 (by omega) (by omega) (by omega) (by omega))
  rw [hs] at PS
  have hpos : 0 < x * (row10 p).1 / 18446744073709551616 := by
    apply Nat.div_pos _ (by decide)
    calc 18446744073709551616 = 2 * 9223372036854775808 := by decide
      _ ≤ x * (row10 p).1 := Nat.mul_le_mul hx2 R1
  have US := Aside0.mk (fun g w hg => hUs ▸ uscale_any (row10 p).1 (row10 p).2 s x g w R2 R3 hs0 hx hpos hg)
  have HT := Aside0.mk ht
  have e2 : bits .and .u64 (U : Int) 1 = ((U % 2 : Nat) : Int) := by
    have h := and_u U 1 (by omega) (by omega)
    rw [Nat.and_one_is_mod] at h
    exact h
  have e3 : bits .or .u64 (U : Int) ((U % 2 : Nat) : Int) = (U : Int) := by
    rw [or_u U (U % 2) (by omega) (by omega)]
    congr 1
    rcases Nat.mod_two_eq_zero_or_one U with h | h
    · rw [h, Nat.or_zero]
    · rw [h, or_one]
      omega
  generalize U % 2 = Ul at *
  have cge : decide ((36028797018963966 : Int) ≤ (U : Int)) = false := decide_eq_false (by omega)
  have cge2 : decide (36028797018963966 ≤ U) = false := decide_eq_false (by omega)
  have RD := Aside0.mk (round_any U (by omega))
  generalize rnd U = rv at *
  generalize (row10 p).1 = r1 at *
  generalize (row10 p).2 = r2 at *
  generalize l2 p = lp at *
  have BO := Aside0.mk (fun b w => Tryz.internal_strconv_bool2_int b w)
  have UM := Aside0.mk unmin_53
  have HQ := Aside0.mk hQ
  have hz := zero96
  have BX := Aside0.mk (heap_alloc_new w (.cells #[.int .u64 0, .int .u64 0, .int .i64 0] 96))
  have HB : Aside0 (Below w.heap.size w (w.alloc (.cells #[.int .u64 0, .int .u64 0, .int .i64 0] 96))) := ⟨(Below.refl _ _).alloc (Nat.le_refl _) _⟩
  have n7 : Aside0 (w.heap.size ≠ 7) := ⟨Nat.ne_of_gt HT.out.big⟩
  clear ht hbl hs hpos R1 R2 R3 hUs hQ
  go_enter Tryz.func91, Tryz.ntmps91
  go_wp2_with (first
    | (go_at_call 43; with_reducible refine (LN.out _).mono ?_; rintro e' w' ⟨rfl, rfl⟩)
    | (go_at_call 63; with_reducible refine (L2.out _).mono ?_; rintro e' w' ⟨rfl, rfl⟩)
    | (go_at_call 62; with_reducible refine (PS.out _ _ _ _ _ (HT.out.below HB.out) BX.out n7.out).mono ?_; rintro e' w2 ⟨rfl, hb, hsz2, hg⟩; have BX2 := Aside0.mk hg; have HB2 := Aside0.mk (HB.out.trans hb); have C2 := cell_2 hg; clear hb hsz2 hg)
    | (go_at_call 64; with_reducible refine (US.out _ _ BX2.out).mono ?_; rintro e' w3 ⟨rfl, hb⟩; have HB3 := Aside0.mk (HB2.out.trans (hb.mono HB2.out.size)); clear hb)
    | (go_at_call 71; with_reducible refine (UM.out _).mono ?_; rintro e' w' ⟨rfl, rfl⟩)
    | (go_at_call 70; with_reducible refine (BO.out _ _).mono ?_; rintro e' w' ⟨rfl, rfl⟩)
    | (go_at_call 68; with_reducible refine (RD.out _).mono ?_; rintro e' w' ⟨rfl, rfl⟩)
    | (go_at_call 104; with_reducible refine (HQ.out _).mono ?_; rintro e' w' ⟨⟨f, r, rfl, hQ⟩, rfl⟩))
  go_ret2
  exact ⟨⟨_, _, rfl, hQ⟩, HB3.out⟩

set_option maxHeartbeats 4000000 in
theorem parse_hi (d b E p : Int) (U x s S R : Nat) (Q : Nat → Value → Prop) (hd : 0 ≤ d) (hd2 : d < 18446744073709551616) (hb1 : 1 ≤ b) (hb : b ≤ 64) (hp1 : -345 ≤ p) (hp2 : p ≤ 310) (hlr : -2000 ≤ l2 p ∧ l2 p ≤ 2000)
    (hbl : ((Lib.bitLen d.toNat : Nat) : Int) = b) (hE : min 1074 (53 - b - l2 p) = E) (hEr : -1200 ≤ E ∧ E ≤ 1200) (hs0 : s < 64) (hs : -(E - (64 - b) + l2 p + 3) = (s : Int))
    (hx : x < 18446744073709551616) (hx2 : 2 ≤ x) (hdx : IntKind.u64.wrap (d * 2 ^ (64 - b).toNat) = (x : Int)) (hUs : usc (row10 p).1 (row10 p).2 s x = U) (hU : 36028797018963966 ≤ U) (hU2 : U < 4611686018427387904)
    (hR : bits .or .u64 (S : Int) ((rnd (half U) : Nat) : Int) = (R : Int)) (hQ : ∀ w, Calls Tryz.prog 104 #[.int .u64 (R : Int), .int .i64 (-(E - 1))] w fun e w' => (∃ f r, e = .returned (.tuple #[.float .f64 f, r]) ∧ Q f r) ∧ w = w')
    (w : World) (ht : Tens w) : Calls Tryz.prog 91 #[.int .u64 d, .int .i64 p, .int .u64 (S : Int)] w fun e w' => (∃ f r, e = .returned (.tuple #[.float .f64 f, r]) ∧ Q f r) ∧ Below w.heap.size w w' := by
  obtain ⟨R1, R2, R3⟩ := row_ok p (by omega) (by omega)
  have LN := Aside0.mk (fun w => hbl ▸ Tryz.bits_Len64 d w hd (by omega))
  have L2 := Aside0.mk (l2_any p (by omega))
  have PS := Aside0.mk (fun w g a b' c ht hg hg7 => prescale_any (E - (64 - b)) p (l2 p) w g a b' c ht hg hg7 (by omega) (by omega) (by omega) (by omega))
  rw [hs] at PS
  have hpos : 0 < x * (row10 p).1 / 18446744073709551616 := by
    apply Nat.div_pos _ (by decide)
    calc 18446744073709551616 = 2 * 9223372036854775808 := by decide
      _ ≤ x * (row10 p).1 := Nat.mul_le_mul hx2 R1
  have US := Aside0.mk (fun g w hg => hUs ▸ uscale_any (row10 p).1 (row10 p).2 s x g w R2 R3 hs0 hx hpos hg)
  have HT := Aside0.mk ht
  have e1 : (U : Int) / 2 = ((U / 2 : Nat) : Int) := by omega
  have e2 : bits .and .u64 (U : Int) 1 = ((U % 2 : Nat) : Int) := by
    have h := and_u U 1 (by omega) (by omega)
    rw [Nat.and_one_is_mod] at h
    exact h
  have e3 : bits .or .u64 ((U / 2 : Nat) : Int) ((U % 2 : Nat) : Int) = ((half U : Nat) : Int) := or_u (U / 2) (U % 2) (by omega) (by omega)
  have hVl : half U < 4611686018427387904 := by
    rw [half_eq]
    split <;> omega
  generalize half U = V at *
  generalize U / 2 = Uh at *
  generalize U % 2 = Ul at *
  have cge : decide ((36028797018963966 : Int) ≤ (U : Int)) = true := decide_eq_true (by omega)
  have cge2 : decide (36028797018963966 ≤ U) = true := decide_eq_true hU
  have RD := Aside0.mk (round_any V (by omega))
  generalize rnd V = rv at *
  generalize (row10 p).1 = r1 at *
  generalize (row10 p).2 = r2 at *
  generalize l2 p = lp at *
  have BO := Aside0.mk (fun b w => Tryz.internal_strconv_bool2_int b w)
  have UM := Aside0.mk unmin_53
  have HQ := Aside0.mk hQ
  have hz := zero96
  have BX := Aside0.mk (heap_alloc_new w (.cells #[.int .u64 0, .int .u64 0, .int .i64 0] 96))
  have HB : Aside0 (Below w.heap.size w (w.alloc (.cells #[.int .u64 0, .int .u64 0, .int .i64 0] 96))) := ⟨(Below.refl _ _).alloc (Nat.le_refl _) _⟩
  have n7 : Aside0 (w.heap.size ≠ 7) := ⟨Nat.ne_of_gt HT.out.big⟩
  clear ht hbl hs hpos R1 R2 R3 hUs hQ
  go_enter Tryz.func91, Tryz.ntmps91
  go_wp2_with (first
    | (go_at_call 43; with_reducible refine (LN.out _).mono ?_; rintro e' w' ⟨rfl, rfl⟩)
    | (go_at_call 63; with_reducible refine (L2.out _).mono ?_; rintro e' w' ⟨rfl, rfl⟩)
    | (go_at_call 62; with_reducible refine (PS.out _ _ _ _ _ (HT.out.below HB.out) BX.out n7.out).mono ?_; rintro e' w2 ⟨rfl, hb, hsz2, hg⟩; have BX2 := Aside0.mk hg; have HB2 := Aside0.mk (HB.out.trans hb); have C2 := cell_2 hg; clear hb hsz2 hg)
    | (go_at_call 64; with_reducible refine (US.out _ _ BX2.out).mono ?_; rintro e' w3 ⟨rfl, hb⟩; have HB3 := Aside0.mk (HB2.out.trans (hb.mono HB2.out.size)); clear hb)
    | (go_at_call 71; with_reducible refine (UM.out _).mono ?_; rintro e' w' ⟨rfl, rfl⟩)
    | (go_at_call 70; with_reducible refine (BO.out _ _).mono ?_; rintro e' w' ⟨rfl, rfl⟩)
    | (go_at_call 68; with_reducible refine (RD.out _).mono ?_; rintro e' w' ⟨rfl, rfl⟩)
    | (go_at_call 104; with_reducible refine (HQ.out _).mono ?_; rintro e' w' ⟨⟨f, r, rfl, hQ⟩, rfl⟩))
  go_ret2
  exact ⟨⟨_, _, rfl, hQ⟩, HB3.out⟩

set_option maxHeartbeats 4000000 in
theorem parse_zero (d b E p : Int) (S s : Nat) (hd : 0 ≤ d) (hd2 : d < 18446744073709551616) (hb1 : 1 ≤ b) (hb : b ≤ 64) (hp1 : -345 ≤ p) (hp2 : p ≤ 310) (hlr : -2000 ≤ l2 p ∧ l2 p ≤ 2000)
    (hbl : ((Lib.bitLen d.toNat : Nat) : Int) = b) (hE : min 1074 (53 - b - l2 p) = E) (hEr : -1200 ≤ E ∧ E ≤ 1200) (hs0 : 64 ≤ s) (hs : -(E - (64 - b) + l2 p + 3) = (s : Int)) (hS : S < 18446744073709551616)
    (w : World) (ht : Tens w) : Calls Tryz.prog 91 #[.int .u64 d, .int .i64 p, .int .u64 (S : Int)] w fun e w' => e = .returned (.tuple #[.float .f64 S, .nilIface]) ∧ Below w.heap.size w w' := by
  have LN := Aside0.mk (fun w => hbl ▸ Tryz.bits_Len64 d w hd (by omega))
  have L2 := Aside0.mk (l2_any p (by omega))
  have PS := Aside0.mk (fun w g a b' c ht hg hg7 => prescale_any (E - (64 - b)) p (l2 p) w g a b' c ht hg hg7 (by omega) (by omega) (by omega) (by omega))
  rw [hs] at PS
  have HT := Aside0.mk ht
  have o0 : bits .or .u64 (S : Int) 0 = (S : Int) := by
    have h := or_u S 0 hS (by omega)
    rw [Nat.or_zero] at h
    exact h
  have hf := f89 (S : Int)
  rw [Int.toNat_natCast] at hf
  generalize (row10 p).1 = r1 at *
  generalize (row10 p).2 = r2 at *
  generalize l2 p = lp at *
  have hz := zero96
  have BX := Aside0.mk (heap_alloc_new w (.cells #[.int .u64 0, .int .u64 0, .int .i64 0] 96))
  have HB : Aside0 (Below w.heap.size w (w.alloc (.cells #[.int .u64 0, .int .u64 0, .int .i64 0] 96))) := ⟨(Below.refl _ _).alloc (Nat.le_refl _) _⟩
  have n7 : Aside0 (w.heap.size ≠ 7) := ⟨Nat.ne_of_gt HT.out.big⟩
  clear ht hbl hs
  go_enter Tryz.func91, Tryz.ntmps91
  go_wp2_with (first
    | (go_at_call 43; with_reducible refine (LN.out _).mono ?_; rintro e' w' ⟨rfl, rfl⟩)
    | (go_at_call 63; with_reducible refine (L2.out _).mono ?_; rintro e' w' ⟨rfl, rfl⟩)
    | (go_at_call 62; with_reducible refine (PS.out _ _ _ _ _ (HT.out.below HB.out) BX.out n7.out).mono ?_; rintro e' w2 ⟨rfl, hb, hsz2, hg⟩; have HB2 := Aside0.mk (HB.out.trans hb); have C2 := cell_2 hg; clear hb hsz2 hg))
  go_ret2
  exact ⟨rfl, HB2.out⟩

theorem bitLenAux_spec : ∀ (f x : Nat), x < 2 ^ f → 0 < x → 2 ^ (Lib.bitLenAux f x - 1) ≤ x ∧ x < 2 ^ Lib.bitLenAux f x ∧ 1 ≤ Lib.bitLenAux f x := by
  intro f
  induction f with
  | zero => intro x h1 h2; omega
  | succ f ih =>
    intro x h1 h2
    rw [Lib.bitLenAux, if_neg (by omega)]
    rcases Nat.lt_or_ge x 2 with h | h
    · have hx : x = 1 := by omega
      subst hx
      have h0 : Lib.bitLenAux f (1 / 2) = 0 := by cases f <;> rfl
      rw [h0]
      decide
    · obtain ⟨k1, k2, k3⟩ := ih (x / 2) (by rw [Nat.pow_succ] at h1; omega) (by omega)
      generalize Lib.bitLenAux f (x / 2) = L at *
      obtain ⟨L, rfl⟩ : ∃ L', L = L' + 1 := ⟨L - 1, by omega⟩
      rw [Nat.add_sub_cancel] at k1
      rw [show 1 + (L + 1) - 1 = L + 1 by omega, show 1 + (L + 1) = L + 1 + 1 by omega, Nat.pow_succ 2 (L + 1), Nat.pow_succ]
      rw [Nat.pow_succ] at k2
      omega
theorem bitLen_spec {x : Nat} (h : x < 18446744073709551616) (h0 : 0 < x) : 2 ^ (Lib.bitLen x - 1) ≤ x ∧ x < 2 ^ Lib.bitLen x ∧ 1 ≤ Lib.bitLen x ∧ Lib.bitLen x ≤ 64 := by
  obtain ⟨a, b, c⟩ := bitLenAux_spec 64 x h h0
  exact ⟨a, b, c, Lib.bitLen_le x 64 (by omega) h⟩
theorem bitLen_eq' {x b : Nat} (hb : 1 ≤ b) (h : x < 18446744073709551616) (h1 : 2 ^ (b - 1) ≤ x) (h2 : x < 2 ^ b) : Lib.bitLen x = b := by
  obtain ⟨k1, k2, k3, k4⟩ := bitLen_spec h (Nat.lt_of_lt_of_le (Nat.pow_pos (by omega)) h1)
  generalize Lib.bitLen x = L at *
  rcases Nat.lt_trichotomy L b with g | g | g
  · have := Nat.pow_le_pow_right (show 0 < 2 by omega) (show L ≤ b - 1 by omega)
    omega
  · exact g
  · have := Nat.pow_le_pow_right (show 0 < 2 by omega) (show b ≤ L - 1 by omega)
    omega

theorem l2_rng (p : Int) (h1 : -345 ≤ p) (h2 : p ≤ 310) : -1200 ≤ l2 p ∧ l2 p ≤ 1100 := by
  unfold l2
  omega
theorem x_shift {d b : Nat} (hb1 : 1 ≤ b) (hb : b ≤ 64) (h1 : 2 ^ (b - 1) ≤ d) (h2 : d < 2 ^ b) : d * 2 ^ (64 - b) < 18446744073709551616 ∧ 9223372036854775808 ≤ d * 2 ^ (64 - b) ∧ IntKind.u64.wrap ((d : Int) * 2 ^ (64 - (b : Int)).toNat) = ((d * 2 ^ (64 - b) : Nat) : Int) := by
  have e1 : 2 ^ b * 2 ^ (64 - b) = 18446744073709551616 := by rw [← Nat.pow_add, show b + (64 - b) = 64 by omega]
  have e2 : 2 ^ (b - 1) * 2 ^ (64 - b) = 9223372036854775808 := by rw [← Nat.pow_add, show b - 1 + (64 - b) = 63 by omega]
  have k1 : d * 2 ^ (64 - b) < 18446744073709551616 := by
    rw [← e1]
    exact Nat.mul_lt_mul_of_pos_right h2 (Nat.pow_pos (by omega))
  have k2 := Nat.mul_le_mul_right (2 ^ (64 - b)) h1
  rw [e2] at k2
  refine ⟨k1, k2, ?_⟩
  rw [show (64 - (b : Int)).toNat = 64 - b by omega]
  have e3 : (d : Int) * 2 ^ (64 - b) = ((d * 2 ^ (64 - b) : Nat) : Int) := by simp
  rw [e3]
  exact wrap_u _ (by omega) (by omega)

/-- Digits in a number's interval: the number. -/
theorem parse_exact (M : Nat) (q : Int) (d b S : Nat) (p : Int) (hM : 0 < M) (hM2 : M < 9007199254740992) (hq1 : -1074 ≤ q) (hq2 : q ≤ 971) (hn : 4503599627370496 ≤ M ∨ q = -1074)
    (hb1 : 1 ≤ b) (hb : b ≤ 64) (hd1 : 2 ^ (b - 1) ≤ d) (hd2 : d < 2 ^ b) (hp1 : -345 ≤ p) (hp2 : p ≤ 310) (hbp : b ≤ 57 ∨ (0 ≤ p ∧ p ≤ 22)) (hx : InX M q d p) (hS : S ≤ 1)
    (w : World) (ht : Tens w) : Calls Tryz.prog 91 #[.int .u64 (d : Int), .int .i64 p, .int .u64 ((S * 9223372036854775808 : Nat) : Int)] w fun e w' => e = .returned (.tuple #[.float .f64 (fbits S M q), .nilIface]) ∧ Below w.heap.size w w' := by
  obtain ⟨s1, s2, main⟩ := parse_in M q d b p hM hM2 hq1 hq2 hn hb1 hb hd1 hd2 hp1 hp2 hbp hx
  obtain ⟨L1, L2⟩ := l2_rng p hp1 hp2
  obtain ⟨x1, x2, x3⟩ := x_shift hb1 hb hd1 hd2
  obtain ⟨R1, R2, R3⟩ := row_ok p (by omega) (by omega)
  have hdW : d < 18446744073709551616 := by
    have : (2 : Nat) ^ b ≤ 2 ^ 64 := Nat.pow_le_pow_right (by omega) hb
    omega
  have hbl : ((Lib.bitLen ((d : Int)).toNat : Nat) : Int) = (b : Int) := by rw [Int.toNat_natCast, bitLen_eq' hb1 hdW hd1 hd2]
  have hE : min 1074 (53 - (b : Int) - l2 p) = pE b p := rfl
  have hEr : -1200 ≤ pE b p ∧ pE b p ≤ 1200 := by unfold pE; omega
  have hsh : -(pE b p - (64 - (b : Int)) + l2 p + 3) = ((sh (pE b p - (64 - b)) p : Nat) : Int) := by unfold sh; omega
  have hs5 : 5 ≤ sh (pE b p - (64 - b)) p := by
    have : 5 ≤ -(pE b p - (64 - (b : Int)) + l2 p + 3) := by unfold pE; omega
    omega
  have hs64 : sh (pE b p - (64 - b)) p < 64 := by omega
  have hUl := usc_lt (lo := (row10 p).2) hs5 x1 R2
  generalize hU : usc (row10 p).1 (row10 p).2 (sh (pE b p - (64 - b)) p) (d * 2 ^ (64 - b)) = U at *
  generalize pE b p = E at *
  have hor : bits .or .u64 ((S * 9223372036854775808 : Nat) : Int) (M : Int) = ((S * 9223372036854775808 + M : Nat) : Int) := by
    rw [or_u _ _ (by omega) (by omega)]
    congr 1
    have := Nat.two_pow_add_eq_or_of_lt (show M < 2 ^ 63 by omega) S
    rw [Nat.mul_comm] at this
    exact this.symm
  have hPK : ∀ w, Calls Tryz.prog 104 #[.int .u64 ((S * 9223372036854775808 + M : Nat) : Int), .int .i64 q] w fun e w' => (∃ f r, e = .returned (.tuple #[.float .f64 f, r]) ∧ (f = fbits S M q ∧ r = .nilIface)) ∧ w = w' := fun w => by
    rcases Nat.lt_or_ge M 4503599627370496 with h | h
    · exact (pack_sub S M q hS h w).mono fun e w' ⟨h1, h2⟩ => ⟨⟨_, _, h1, rfl, rfl⟩, h2⟩
    · exact (pack_norm S M q hS h hM2 hq1 hq2 w).mono fun e w' ⟨h1, h2⟩ => ⟨⟨_, _, h1, rfl, rfl⟩, h2⟩
  rcases main with ⟨hUlo, hEq, hrn⟩ | ⟨hUhi, hEq, hrn⟩
  · have := parse_lo d b E p U _ _ (S * 9223372036854775808) (S * 9223372036854775808 + M) _ (by omega) (by omega) (by omega) (by omega) hp1 hp2 (by omega) hbl hE hEr hs64 hsh x1 (by omega) x3 hU hUlo (by rw [hrn]; exact hor) (by rw [hEq, Int.neg_neg]; exact hPK) w ht
    exact this.mono fun e w' ⟨⟨f, r, h1, h2, h3⟩, h4⟩ => ⟨by rw [h1, h2, h3], h4⟩
  · have := parse_hi d b E p U _ _ (S * 9223372036854775808) (S * 9223372036854775808 + M) _ (by omega) (by omega) (by omega) (by omega) hp1 hp2 (by omega) hbl hE hEr hs64 hsh x1 (by omega) x3 hU hUhi hUl (by rw [hrn]; exact hor) (by rw [hEq, Int.neg_neg]; exact hPK) w ht
    exact this.mono fun e w' ⟨⟨f, r, h1, h2, h3⟩, h4⟩ => ⟨by rw [h1, h2, h3], h4⟩

theorem rnd_lt {u : Nat} (h : u < 4611686018427387904) : rnd u < 4611686018427387904 := by
  unfold rnd
  omega
theorem half_lt {u : Nat} (h : u < 4611686018427387904) : half u < 4611686018427387904 := by
  rw [half_eq]
  split <;> omega

/-- Any digits: some number. -/
theorem parse_free (d S : Nat) (p : Int) (hd0 : 0 < d) (hdW : d < 18446744073709551616) (hp1 : -345 ≤ p) (hp2 : p ≤ 310) (hS : S < 18446744073709551616)
    (w : World) (ht : Tens w) : Calls Tryz.prog 91 #[.int .u64 (d : Int), .int .i64 p, .int .u64 (S : Int)] w fun e w' => (∃ (f : Nat) (r : Value), e = .returned (.tuple #[.float .f64 f, r]) ∧ (r = .nilIface ∨ r = .iface 58 (.int .i64 1))) ∧ Below w.heap.size w w' := by
  obtain ⟨hd1, hd2, hb1, hb⟩ := bitLen_spec hdW hd0
  have hbl : ((Lib.bitLen ((d : Int)).toNat : Nat) : Int) = ((Lib.bitLen d : Nat) : Int) := by rw [Int.toNat_natCast]
  generalize Lib.bitLen d = b at *
  obtain ⟨L1, L2⟩ := l2_rng p hp1 hp2
  obtain ⟨x1, x2, x3⟩ := x_shift hb1 hb hd1 hd2
  obtain ⟨R1, R2, R3⟩ := row_ok p (by omega) (by omega)
  have hE : min 1074 (53 - (b : Int) - l2 p) = pE b p := rfl
  have hEr : -1200 ≤ pE b p ∧ pE b p ≤ 1200 := by unfold pE; omega
  have hs5' : 5 ≤ -(pE b p - (64 - (b : Int)) + l2 p + 3) := by unfold pE; omega
  have hsh : -(pE b p - (64 - (b : Int)) + l2 p + 3) = ((sh (pE b p - (64 - b)) p : Nat) : Int) := by unfold sh; omega
  have hs5 : 5 ≤ sh (pE b p - (64 - b)) p := by omega
  generalize sh (pE b p - (64 - b)) p = s at *
  generalize pE b p = E at *
  rcases Nat.lt_or_ge s 64 with hs64 | hs64
  · have hUl := usc_lt (lo := (row10 p).2) hs5 x1 R2
    generalize hU : usc (row10 p).1 (row10 p).2 s (d * 2 ^ (64 - b)) = U at *
    rcases Nat.lt_or_ge U 36028797018963966 with hUlo | hUhi
    · have hr := rnd_lt hUl
      have hor := or_u S (rnd U) hS (by omega)
      have hR : S ||| rnd U < 2 ^ 64 := Nat.or_lt_two_pow (by omega) (by omega)
      exact parse_lo d b E p U _ _ S (S ||| rnd U) _ (by omega) (by omega) (by omega) (by omega) hp1 hp2 (by omega) hbl hE hEr hs64 hsh x1 (by omega) x3 hU hUlo hor (fun w => pack_free _ _ (by omega) (by omega) (by omega) w) w ht
    · have hr := rnd_lt (half_lt hUl)
      have hor := or_u S (rnd (half U)) hS (by omega)
      have hR : S ||| rnd (half U) < 2 ^ 64 := Nat.or_lt_two_pow (by omega) (by omega)
      exact parse_hi d b E p U _ _ S (S ||| rnd (half U)) _ (by omega) (by omega) (by omega) (by omega) hp1 hp2 (by omega) hbl hE hEr hs64 hsh x1 (by omega) x3 hU hUhi hUl hor (fun w => pack_free _ _ (by omega) (by omega) (by omega) w) w ht
  · exact (parse_zero d b E p S s (by omega) (by omega) (by omega) (by omega) hp1 hp2 (by omega) hbl hE hEr hs64 hsh hS w ht).mono fun e w' ⟨h1, h2⟩ => ⟨⟨_, _, h1, Or.inl rfl⟩, h2⟩
end Go.Proofs.YtjniglmijikojaaGreatDoor.Text
namespace Go.Proofs.YtjniglmijikojaaGreatDoor.Text
set_option linter.unusedSimpArgs false
set_option linter.unusedVariables false
open Go.RowKit Go.Lib Go.Proofs.YtjniglmijikojaaGreatDoor.Own

theorem bits_rngP (op : BinOp) (x y : Int) : 0 ≤ bits op .u64 x y ∧ bits op .u64 x y < 18446744073709551616 := by
  unfold bits
  rw [IntKind.wrap_u64]
  omega
/-- What is told of a float and an error. -/
def Told (f : Nat) (r : Value) : Prop := f < 18446744073709551616 ∧ (r = .nilIface ∨ r = .iface 58 (.int .i64 1))
def ToldRes (w : World) (e : Ending) (w' : World) : Prop := (∃ f r, e = .returned (.tuple #[.float .f64 f, r]) ∧ Told f r) ∧ w = w'
theorem pack_told (m : Nat) (q : Int) (hm : m < 18446744073709551616) (hq1 : -100000 ≤ q) (hq2 : q ≤ 100000) (w : World) : Calls Tryz.prog 104 #[.int .u64 (m : Int), .int .i64 q] w (ToldRes w) := by
  by_cases hb : m / 4503599627370496 % 2 = 1
  · have h1 : bits .and .u64 (m : Int) 4503599627370496 = 4503599627370496 := by
      have h := and_u m 4503599627370496 hm (by omega)
      rw [bit52, if_pos hb] at h
      exact h
    by_cases h972 : 972 ≤ q
    · have hf := f89
      obtain ⟨x, h2⟩ : ∃ x, bits .and .u64 (m : Int) 9223372036854775808 = x := ⟨_, rfl⟩
      obtain ⟨y, h3⟩ : ∃ y, bits .or .u64 x 9218868437227405312 = y := ⟨_, rfl⟩
      have HY := Aside0.mk (show 0 ≤ y ∧ y < 18446744073709551616 by rw [← h3]; exact bits_rngP _ _ _)
      go_enter Tryz.func104, Tryz.ntmps104
      go_wp2
      go_ret2
      exact ⟨⟨_, _, rfl, by have := HY.out; omega, Or.inr rfl⟩, rfl⟩
    · obtain ⟨x, h3⟩ : ∃ x, bits .andNot .u64 (m : Int) 4503599627370496 = x := ⟨_, rfl⟩
      obtain ⟨t, ht⟩ : ∃ t, IntKind.u64.wrap (IntKind.u64.wrap (1075 + q) * 4503599627370496) = t := ⟨_, rfl⟩
      obtain ⟨y, h4⟩ : ∃ y, bits .or .u64 x t = y := ⟨_, rfl⟩
      have HY := Aside0.mk (show 0 ≤ y ∧ y < 18446744073709551616 by rw [← h4]; exact bits_rngP _ _ _)
      have hf := f89
      go_enter Tryz.func104, Tryz.ntmps104
      go_wp2
      go_ret2
      exact ⟨⟨_, _, rfl, by have := HY.out; omega, Or.inl rfl⟩, rfl⟩
  · have h1 : bits .and .u64 (m : Int) 4503599627370496 = 0 := by
      have h := and_u m 4503599627370496 hm (by omega)
      rw [bit52, if_neg hb] at h
      exact h
    have hf := f89 (m : Int)
    have HM := Aside0.mk hm
    go_enter Tryz.func104, Tryz.ntmps104
    go_wp2
    go_ret2
    exact ⟨⟨_, _, rfl, by have := HM.out; omega, Or.inl rfl⟩, rfl⟩
def ToldBelow (w : World) (e : Ending) (w' : World) : Prop := (∃ f r, e = .returned (.tuple #[.float .f64 f, r]) ∧ Told f r) ∧ Below w.heap.size w w'
theorem parse_told (d S : Nat) (p : Int) (hd0 : 0 < d) (hdW : d < 18446744073709551616) (hp1 : -345 ≤ p) (hp2 : p ≤ 310) (hS : S < 18446744073709551616)
    (w : World) (ht : Tens w) : Calls Tryz.prog 91 #[.int .u64 (d : Int), .int .i64 p, .int .u64 (S : Int)] w (ToldBelow w) := by
  obtain ⟨hd1, hd2, hb1, hb⟩ := bitLen_spec hdW hd0
  have hbl : ((Lib.bitLen ((d : Int)).toNat : Nat) : Int) = ((Lib.bitLen d : Nat) : Int) := by rw [Int.toNat_natCast]
  generalize Lib.bitLen d = b at *
  obtain ⟨L1, L2⟩ := l2_rng p hp1 hp2
  obtain ⟨x1, x2, x3⟩ := x_shift hb1 hb hd1 hd2
  obtain ⟨R1, R2, R3⟩ := row_ok p (by omega) (by omega)
  have hE : min 1074 (53 - (b : Int) - l2 p) = pE b p := rfl
  have hEr : -1200 ≤ pE b p ∧ pE b p ≤ 1200 := by unfold pE; omega
  have hs5' : 5 ≤ -(pE b p - (64 - (b : Int)) + l2 p + 3) := by unfold pE; omega
  have hsh : -(pE b p - (64 - (b : Int)) + l2 p + 3) = ((sh (pE b p - (64 - b)) p : Nat) : Int) := by unfold sh; omega
  have hs5 : 5 ≤ sh (pE b p - (64 - b)) p := by omega
  generalize sh (pE b p - (64 - b)) p = s at *
  generalize pE b p = E at *
  rcases Nat.lt_or_ge s 64 with hs64 | hs64
  · have hUl := usc_lt (lo := (row10 p).2) hs5 x1 R2
    generalize hU : usc (row10 p).1 (row10 p).2 s (d * 2 ^ (64 - b)) = U at *
    rcases Nat.lt_or_ge U 36028797018963966 with hUlo | hUhi
    · have hr := rnd_lt hUl
      have hor := or_u S (rnd U) hS (by omega)
      have hR : S ||| rnd U < 2 ^ 64 := Nat.or_lt_two_pow (by omega) (by omega)
      exact parse_lo d b E p U _ _ S (S ||| rnd U) Told (by omega) (by omega) (by omega) (by omega) hp1 hp2 (by omega) hbl hE hEr hs64 hsh x1 (by omega) x3 hU hUlo hor (fun w => pack_told _ _ (by omega) (by omega) (by omega) w) w ht
    · have hr := rnd_lt (half_lt hUl)
      have hor := or_u S (rnd (half U)) hS (by omega)
      have hR : S ||| rnd (half U) < 2 ^ 64 := Nat.or_lt_two_pow (by omega) (by omega)
      exact parse_hi d b E p U _ _ S (S ||| rnd (half U)) Told (by omega) (by omega) (by omega) (by omega) hp1 hp2 (by omega) hbl hE hEr hs64 hsh x1 (by omega) x3 hU hUhi hUl hor (fun w => pack_told _ _ (by omega) (by omega) (by omega) w) w ht
  · exact (parse_zero d b E p S s (by omega) (by omega) (by omega) (by omega) hp1 hp2 (by omega) hbl hE hEr hs64 hsh hS w ht).mono fun e w' ⟨h1, h2⟩ => ⟨⟨_, _, h1, hS, Or.inl rfl⟩, h2⟩
end Go.Proofs.YtjniglmijikojaaGreatDoor.Text
