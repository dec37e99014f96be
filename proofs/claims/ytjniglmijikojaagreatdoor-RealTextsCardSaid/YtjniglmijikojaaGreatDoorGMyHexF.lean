/- atofHex: its contract: some float, no error or the one for the range. The conditions: 64 bits; the tables are laid. lower, underscoreOK: their contracts. The condition: the text is of at most 60 bytes. readFloat: what its contract says; the empty text. No conditions. -/
import Derived.Test.YtjniglmijikojaaGreatDoorGMyShift
import Derived.LaidEqlPtr
import Derived.Test.YtjniglmijikojaaGreatDoorGMyW0
import Derived.Test.YtjniglmijikojaaGreatDoorGOwnPw
import Derived.Deep.DeepCutAuto
import Derived.Deep.CutBlock
import Derived.Handy
namespace Go.Proofs.YtjniglmijikojaaGreatDoor.Text
set_option linter.unusedSimpArgs false
set_option linter.unusedVariables false
open Go.RowKit Go.Lib Go.Proofs.YtjniglmijikojaaGreatDoor.Own Go.Proofs.YtjniglmijikojaaGreatDoorW.PrintWords

/-- Two variables lie in blocks of their own. -/
def Two (w : World) : Prop := ∃ c5 t5 c6 t6, w.heap[5]? = some (.cells c5 t5 (0, 0)) ∧ w.heap[6]? = some (.cells c6 t6 (0, 0))
theorem Two.below {w W : World} (h : Two w) (hb : Below w.heap.size w W) : Two W := by
  obtain ⟨c5, t5, c6, t6, h5, h6⟩ := h
  have l : ∀ i c t, w.heap[i]? = some (.cells c t (0, 0)) → i < w.heap.size := fun i c t e => by
    rcases Nat.lt_or_ge i w.heap.size with h' | h'
    · exact h'
    · rw [Array.getElem?_eq_none h'] at e
      cases e
  exact ⟨c5, t5, c6, t6, by rw [hb.block 5 (l _ _ _ h5)]; exact h5, by rw [hb.block 6 (l _ _ _ h6)]; exact h6⟩
theorem info117' : (Tryz.prog.info? 117).map (fun j => j.size == 0) = some false := by kernel_rfl
theorem info117 : ∃ j, Tryz.prog.info? 117 = some j ∧ j.size ≠ 0 := by
  obtain ⟨j, hj, e⟩ := Option.map_eq_some_iff.1 info117'
  exact ⟨j, hj, by simpa using e⟩
theorem two_ne {W : World} (h : Two W) : (binOp .eql 115 (.pointer (some ⟨6, 0, none⟩)) (.pointer (some ⟨5, 0, none⟩))).run Tryz.prog W = .ok (.bool false) W := by
  obtain ⟨c5, t5, c6, t6, h5, h6⟩ := h
  obtain ⟨j, hj, hj0⟩ := info117
  exact run_eql_ptr_other W Tryz.underlying115 hj hj0 (fun e => by injection e with e; cases e) h6 h5
/-- What atofHex reads. -/
structure HexW (w wx : World) : Prop where
  i0 : wx.cell? ⟨6, 0, none⟩ = some (.int .u64 52)
  i1 : wx.cell? ⟨6, 1, none⟩ = some (.int .u64 11)
  i2 : wx.cell? ⟨6, 2, none⟩ = some (.int .i64 (-1023))
  h6 : 6 < wx.heap.size
  bel : Below w.heap.size w wx
theorem HexW.drew {w wx : World} (h : HexW w wx) : HexW w wx.drew := ⟨h.i0, h.i1, h.i2, h.h6, h.bel.drew⟩
/-- A mantissa and an exponent. -/
def MX (m e : Value) (M : Nat) (X : Int) : Prop := m = .int .u64 (M : Int) ∧ e = .int .i64 X ∧ M < 18446744073709551616 ∧ -200400 ≤ X ∧ X ≤ 200400
theorem or_half (M : Nat) (h : 2 ≤ M) : M / 2 ||| M % 2 < M := by
  have e : (M / 2 ||| M % 2) / 2 = M / 2 / 2 := by
    rw [Nat.or_div_two, show M % 2 / 2 = 0 by omega, Nat.or_zero]
  omega
theorem or_halfP (M n : Nat) (h : M < 2 ^ (n + 1)) (hn : 1 ≤ n) : M / 2 ||| M % 2 < 2 ^ n := by
  rw [Nat.pow_succ] at h
  have : 2 ^ 1 ≤ 2 ^ n := Nat.pow_le_pow_right (by omega) hn
  exact Nat.or_lt_two_pow (by omega) (by omega)
theorem and_one (M : Nat) (h : M < 18446744073709551616) : bits .and .u64 (M : Int) 1 = ((M % 2 : Nat) : Int) := by
  have := and_u M 1 h (by omega)
  rw [Nat.and_one_is_mod] at this
  exact this
theorem or_one (M : Nat) (h : M < 18446744073709551616) : ∃ R : Nat, R < 18446744073709551616 ∧ bits .or .u64 ((M : Int) / 2) ((M : Int) % 2) = (R : Int) ∧ R = (M / 2 ||| M % 2) := by
  refine ⟨M / 2 ||| M % 2, ?_, or_u (M / 2) (M % 2) (by omega) (by omega), rfl⟩
  exact Nat.or_lt_two_pow (n := 64) (by omega) (by omega)

set_option maxRecDepth 30000 in
set_option maxHeartbeats 4000000 in
theorem hex_any (s : ByteArray) (m : Nat) (E : Int) (neg tr : Bool) (hm : m < 18446744073709551616) (hE1 : -200000 ≤ E) (hE2 : E ≤ 200000) (w : World) (ht : Tabs w) (h2 : Two w) :
    Calls Tryz.prog 81 #[.string s, .pointer (some ⟨6, 0, none⟩), .int .u64 (m : Int), .int .i64 E, .bool neg, .bool tr] w (ToldBelow w) := by
  have hf := f89
  have PE := Aside0.mk (fun W (hb : Below w.heap.size w W) => two_ne (h2.below hb))
  have i0 := ht.i0
  have i1 := ht.i1
  have i2 := ht.i2
  have h6 : 6 < w.heap.size := by have := ht.big; omega
  have HW := Aside0.mk (show HexW w w from ⟨i0, i1, i2, h6, Below.refl _ _⟩)
  have HM := Aside0.mk hm
  clear ht hm h2
  go_enter Tryz.func81, Tryz.ntmps81
  go_wp2
  go_region
  go_upto_block 0 with fail
  go_cut [2, 3] from 42 to 57 (fun m e wx => ∃ (M : Nat) (X : Int), MX m e M X ∧ -200300 ≤ X ∧ X ≤ 200300 ∧ HexW w wx)
  case first =>
    go_wp2_with fail
    go_loopg [2, 3] 54 (fun gk m e wr => ∃ (M : Nat) (X : Int), MX m e M X ∧ (M = 0 ∨ 18014398509481984 ≤ M * 2 ^ gk) ∧ -200200 + (gk : Int) ≤ X ∧ X ≤ 200200 ∧ HexW w wr)
    case atStart => exact ⟨m, _, ⟨rfl, rfl, HM.out, by omega, by omega⟩, by omega, by omega, by omega, by first | exact HW.out | exact HW.out.drew | exact HW.out.drew.drew⟩
    case round =>
      clear i0 i1 i2 h6 HM HW
      obtain ⟨M, X, ⟨rfl, rfl, hM, hX1, hX2⟩, hg, hX3, hX4, hw⟩ := hrel
      have HW := Aside0.mk hw
      have HM := Aside0.mk hM
      have HG := Aside0.mk hg
      have i0 := hw.i0
      have i1 := hw.i1
      have i2 := hw.i2
      have h6 := hw.h6
      clear hw hg
      by_cases h0 : M = 0
      · subst h0
        go_wp2_with fail
        go_meet
        case rel => exact ⟨0, X, ⟨rfl, rfl, HM.out, hX1, hX2⟩, by omega, by omega, HW.out⟩
      · have p0 : ((M : Int) != 0) = true := bne_iff_ne.2 (by omega)
        have p0' : ((M : Int) == 0) = false := beq_eq_false_iff_ne.2 (by omega)
        have H0 := Aside0.mk h0
        clear h0
        by_cases h1 : M < 18014398509481984
        · have p1 : (M : Int) / 18014398509481984 = 0 := by omega
          have w1 : IntKind.u64.wrap ((M : Int) * 2) = (M : Int) * 2 := wrap_u _ (by omega) (by omega)
          have hgk : 1 ≤ gk := by
            rcases Nat.eq_zero_or_pos gk with e | e
            · have h2 := HG.out.resolve_left H0.out
              rw [e, Nat.pow_zero] at h2
              omega
            · exact e
          have HG2 := Aside0.mk (show 18014398509481984 ≤ (M * 2) * 2 ^ (gk - 1) by
            have h2 := HG.out.resolve_left H0.out
            obtain ⟨g1, rfl⟩ : ∃ g1, gk = g1 + 1 := ⟨gk - 1, by omega⟩
            rw [Nat.pow_succ] at h2
            rw [Nat.add_sub_cancel, Nat.mul_assoc, Nat.mul_comm 2]
            exact h2)
          have H1 := Aside0.mk h1
          clear h1 hM
          go_wp2_with fail
          go_roundg (gk - 1)
          case measure => omega
          case rel => exact ⟨M * 2, X - 1, ⟨rfl, rfl, by have := H1.out; omega, by omega, by omega⟩, .inr HG2.out, by omega, by omega, HW.out⟩
        · have p1 : ((M : Int) / 18014398509481984 == 0) = false := beq_eq_false_iff_ne.2 (by omega)
          clear h1 hM
          go_wp2_with fail
          go_meet
          case rel => exact ⟨M, X, ⟨rfl, rfl, HM.out, hX1, hX2⟩, by omega, by omega, HW.out⟩
  case rest =>
    clear i0 i1 i2 h6 HM HW
    obtain ⟨M, X, ⟨rfl, rfl, hM, hX1, hX2⟩, hX3, hX4, hw⟩ := hcut
    have HW := Aside0.mk hw
    have HM := Aside0.mk hM
    have i0 := hw.i0
    have i1 := hw.i1
    have i2 := hw.i2
    have h6 := hw.h6
    clear hw
    go_upto_if 58 with fail
    go_cut [2] from 59 to 60 (fun m wx => ∃ M : Nat, m = .int .u64 (M : Int) ∧ M < 18446744073709551616 ∧ wc = wx)
    case first =>
      obtain ⟨R, hR⟩ : ∃ R, bits .or .u64 (M : Int) 1 = R := ⟨_, rfl⟩
      have HR := Aside0.mk (show 0 ≤ R ∧ R < 18446744073709551616 by rw [← hR]; exact bits_rng _ _ _)
      cases tr
      · go_wp2_with fail
        go_meet
        case rel => exact ⟨M, rfl, HM.out, rfl⟩
      · go_wp2_with fail
        go_meet
        case rel => exact ⟨R.toNat, by rw [Int.toNat_of_nonneg HR.out.1], by have := HR.out; omega, rfl⟩
    case rest =>
      clear HM hM
      obtain ⟨M1, rfl, hM, rfl⟩ := hcut
      have HM := Aside0.mk hM
      clear hM
      go_upto_block 2 with fail
      go_cut [2, 3] from 61 to 76 (fun m e wx => ∃ (M : Nat) (X : Int), MX m e M X ∧ -200350 ≤ X ∧ X ≤ 200350 ∧ wc = wx)
      case first =>
        go_wp2_with fail
        go_loopg [2, 3] 9 (fun gk m e wr => ∃ (M : Nat) (X : Int), MX m e M X ∧ M < 2 ^ (55 + gk) ∧ -200350 ≤ X ∧ X + (gk : Int) ≤ 200320 ∧ wc = wr)
        case atStart => exact ⟨M1, X, ⟨rfl, rfl, HM.out, hX1, hX2⟩, HM.out, by omega, by omega, rfl⟩
        case round =>
          clear HM hX1 hX2 hX3 hX4
          obtain ⟨M2, X2, ⟨rfl, rfl, hM, hX1, hX2⟩, hg, hX3, hX4, rfl⟩ := hrel
          have HM := Aside0.mk hM
          have HG := Aside0.mk hg
          clear hg
          by_cases h1 : M2 < 36028797018963968
          · have p1 : (M2 : Int) / 36028797018963968 = 0 := by omega
            clear h1 hM
            go_wp2_with fail
            go_meet
            case rel => exact ⟨M2, X2, ⟨rfl, rfl, HM.out, hX1, hX2⟩, by omega, by omega, rfl⟩
          · have p1 : ((M2 : Int) / 36028797018963968 != 0) = true := bne_iff_ne.2 (by omega)
            have p2 := and_one M2 hM
            obtain ⟨R, hR1, hR2, hR3⟩ := or_one M2 hM
            have HR := Aside0.mk hR3
            have HR1 := Aside0.mk hR1
            have hgk : 1 ≤ gk := by
              rcases Nat.eq_zero_or_pos gk with e | e
              · have := HG.out
                rw [e] at this
                omega
              · exact e
            have H1 := Aside0.mk h1
            clear h1 hM hR3 hR1
            go_wp2_with fail
            go_roundg (gk - 1)
            case measure => omega
            case rel => exact ⟨R, X2 + 1, ⟨rfl, rfl, HR1.out, by omega, by omega⟩, by
              rw [HR.out]
              exact or_halfP _ _ (by have := HG.out; rw [show 55 + (gk - 1) + 1 = 55 + gk by omega]; exact this) (by omega), by omega, by omega, rfl⟩
      case rest =>
        clear HM hX1 hX2 hX3 hX4
        obtain ⟨M2, X2, ⟨rfl, rfl, hM, hX1, hX2⟩, hX3, hX4, rfl⟩ := hcut
        have HM := Aside0.mk hM
        clear hM
        go_upto_block 4 with fail
        go_cut [2, 3] from 77 to 91 (fun m e wx => ∃ (M : Nat) (X : Int), MX m e M X ∧ -200350 ≤ X ∧ X ≤ 200350 ∧ wc = wx)
        case first =>
          go_wp2_with fail
          go_loopw [2, 3] (fun m e wr => ∃ (M : Nat) (X : Int), MX m e M X ∧ -200350 ≤ X ∧ X ≤ 200350 ∧ wc = wr) (fun m _ _ => (RowKit.intOf m).toNat)
          case atStart => exact ⟨M2, X2, ⟨rfl, rfl, HM.out, hX1, hX2⟩, by omega, by omega, rfl⟩
          case round =>
            clear HM hX1 hX2 hX3 hX4
            obtain ⟨M3, X3, ⟨rfl, rfl, hM, hX1, hX2⟩, hX3, hX4, rfl⟩ := hrel
            have HM := Aside0.mk hM
            by_cases h1 : 1 < M3
            · have p1 := eq_true (show (1 : Int) < (M3 : Int) by omega)
              have p1' := eq_true h1
              by_cases h2 : X3 < -1024
              · have p2 := eq_true h2
                have p3 := and_one M3 hM
                obtain ⟨R, hR1, hR2, hR3⟩ := or_one M3 hM
                have HR1 := Aside0.mk hR1
                have MS := Aside0.mk (show ((R : Nat) : Int).toNat < ((M3 : Nat) : Int).toNat by
                  have := or_half M3 (by omega)
                  omega)
                clear h1 hM hR3 hR1
                go_wp2_with fail
                go_roundw
                case measure => exact MS.out
                case rel => exact ⟨R, X3 + 1, ⟨rfl, rfl, HR1.out, by omega, by omega⟩, by omega, by omega, trivial⟩
              · have p2 := eq_false h2
                clear h1 hM
                go_wp2_with fail
                go_meet
                case rel => exact ⟨M3, X3, ⟨rfl, rfl, HM.out, hX1, hX2⟩, by omega, by omega, rfl⟩
            · have p1 := eq_false (show ¬ (1 : Int) < (M3 : Int) by omega)
              have p1' := eq_false h1
              clear h1 hM
              go_wp2_with fail
              go_meet
              case rel => exact ⟨M3, X3, ⟨rfl, rfl, HM.out, hX1, hX2⟩, by omega, by omega, rfl⟩
        case rest =>
          clear HM hX1 hX2 hX3 hX4
          obtain ⟨M3, X3, ⟨rfl, rfl, hM, hX1, hX2⟩, hX3, hX4, rfl⟩ := hcut
          obtain ⟨r0, hr0⟩ : ∃ r0, bits .and .u64 (M3 : Int) 3 = r0 := ⟨_, rfl⟩
          obtain ⟨M4, hM4⟩ : ∃ M4 : Nat, M3 / 4 = M4 := ⟨_, rfl⟩
          have d4 : (M3 : Int) / 4 = (M4 : Int) := by omega
          have hM5 : M4 ≤ 4611686018427387904 := by omega
          obtain ⟨r1, hr1⟩ : ∃ r1, bits .and .u64 (M4 : Int) 1 = r1 := ⟨_, rfl⟩
          obtain ⟨r2, hr2⟩ : ∃ r2, bits .or .u64 r0 r1 = r2 := ⟨_, rfl⟩
          clear hM hM4
          go_upto_if 103 with fail
          go_cut [2, 3] from 104 to 117 (fun m e wx => ∃ (M : Nat) (X : Int), MX m e M X ∧ -200380 ≤ X ∧ X ≤ 200380 ∧ wc = wx)
          case first =>
            by_cases h3 : r2 = 3
            · subst h3
              have wq : IntKind.u64.wrap ((M4 : Int) + 1) = (M4 : Int) + 1 := wrap_u _ (by omega) (by omega)
              by_cases h4 : (M4 : Int) + 1 = 9007199254740992
              · have q := beq_iff_eq.2 h4
                clear h4
                go_wp2_with fail
                go_meet
                case rel => exact ⟨(M4 + 1) / 2, _, ⟨by first | rfl | exact congrArg (Value.int .u64) (by omega), rfl, by omega, by omega, by omega⟩, by omega, by omega, rfl⟩
              · have q : ((M4 : Int) + 1 == 9007199254740992) = false := beq_eq_false_iff_ne.2 h4
                clear h4
                go_wp2_with fail
                go_meet
                case rel => exact ⟨M4 + 1, _, ⟨rfl, rfl, by omega, by omega, by omega⟩, by omega, by omega, rfl⟩
            · have q : (r2 == 3) = false := beq_eq_false_iff_ne.2 h3
              clear h3
              go_wp2_with fail
              go_meet
              case rel => exact ⟨M4, _, ⟨rfl, rfl, by omega, by omega, by omega⟩, by omega, by omega, rfl⟩
          case rest =>
            clear hr0 d4 hM5 hr1 hr2 hX1 hX2 hX3 hX4
            obtain ⟨M5, X5, ⟨rfl, rfl, hM, hX1, hX2⟩, hX3, hX4, rfl⟩ := hcut
            obtain ⟨b5, hb5⟩ : ∃ b5, ((M5 : Int) / 4503599627370496 == 0) = b5 := ⟨_, rfl⟩
            go_upto_if 124 with fail
            go_cut [3] from 125 to 128 (fun e wx => ∃ X : Int, e = .int .i64 X ∧ -200380 ≤ X ∧ X ≤ 200380 ∧ wc = wx)
            case first =>
              cases b5
              · go_wp2_with fail
                go_meet
                case rel => exact ⟨X5, rfl, hX3, hX4, rfl⟩
              · go_wp2_with fail
                go_meet
                case rel => exact ⟨-1023, rfl, by omega, by omega, rfl⟩
            case rest =>
              clear hb5 hX1 hX2 hX3 hX4
              obtain ⟨X6, rfl, hX3, hX4, rfl⟩ := hcut
              go_upto_if 131 with fail
              go_cut [2, 3, 17] from 129 to 139 (fun m e r wx => ∃ (M X : Int), m = .int .u64 M ∧ e = .int .i64 X ∧ -200380 ≤ X ∧ X ≤ 200380 ∧ (r = .nilIface ∨ r = .iface 58 (.int .i64 1)) ∧ wc = wx)
              case first =>
                by_cases h7 : 1023 < X6
                · have q := eq_true h7
                  go_wp2_with fail
                  go_meet
                  case rel => exact ⟨4503599627370496, 1024, rfl, rfl, by omega, by omega, .inr rfl, rfl⟩
                · have q := eq_false h7
                  go_wp2_with fail
                  go_meet
                  case rel => exact ⟨_, X6, rfl, rfl, by omega, by omega, .inl rfl, rfl⟩
              case rest =>
                clear hX3 hX4 hM
                obtain ⟨M7, X7, rfl, rfl, hX3, hX4, hr, rfl⟩ := hcut
                have HRV := Aside0.mk hr
                have pe0 := PE.out wc HW.out.bel
                have pe1 := PE.out wc.drew HW.out.bel.drew
                have pe2 := PE.out wc.drew.drew HW.out.bel.drew.drew
                have pe3 := PE.out wc.drew.drew.drew HW.out.bel.drew.drew.drew
                obtain ⟨A, hA⟩ : ∃ A, bits .and .u64 M7 4503599627370495 = A := ⟨_, rfl⟩
                obtain ⟨B, hB⟩ : ∃ B, bits .and .i64 (X7 + 1023) 2047 = B := ⟨_, rfl⟩
                obtain ⟨C0, hC0⟩ : ∃ C0, IntKind.u64.wrap B = C0 := ⟨_, rfl⟩
                obtain ⟨C, hC⟩ : ∃ C, IntKind.u64.wrap (C0 * 4503599627370496) = C := ⟨_, rfl⟩
                obtain ⟨R, hR⟩ : ∃ R, bits .or .u64 A C = R := ⟨_, rfl⟩
                have HR := Aside0.mk (show 0 ≤ R ∧ R < 18446744073709551616 by rw [← hR]; exact bits_rng _ _ _)
                obtain ⟨R2, hR2⟩ : ∃ R2, bits .or .u64 R 9223372036854775808 = R2 := ⟨_, rfl⟩
                have HR2 := Aside0.mk (show 0 ≤ R2 ∧ R2 < 18446744073709551616 by rw [← hR2]; exact bits_rng _ _ _)
                clear hr
                go_wp2
                go_region
                cases neg
                · go_wp2
                  go_returns
                  exact ⟨⟨_, _, rfl, by have := HR.out; omega, HRV.out⟩, by first | exact HW.out.bel | exact HW.out.bel.drew | exact HW.out.bel.drew.drew | exact HW.out.bel.drew.drew.drew⟩
                · go_wp2
                  go_region
                  go_wp2
                  go_returns
                  exact ⟨⟨_, _, rfl, by have := HR2.out; omega, HRV.out⟩, by first | exact HW.out.bel | exact HW.out.bel.drew | exact HW.out.bel.drew.drew | exact HW.out.bel.drew.drew.drew⟩
end Go.Proofs.YtjniglmijikojaaGreatDoor.Text
namespace Go.Proofs.YtjniglmijikojaaGreatDoor.Text
open Go.RowKit Go.Lib Go.Proofs.YtjniglmijikojaaGreatDoor.Own Go.Proofs.YtjniglmijikojaaGreatDoorW.PrintWords

theorem bn (s : ByteArray) (k : Nat) : ∀ h : k < s.size, ((s[k]'h).toNat : Int) = bt s (k : Int) := fun h => bt_at s (k : Int) h

theorem lower_any (c : Int) (w : World) : Calls Tryz.prog 60 #[.int .u8 c] w fun e w' => e = .returned (.int .u8 (lw c)) ∧ w = w' := by
  have h : bits .or .u8 c 32 = lw c := rfl
  go_enter Tryz.func60, Tryz.ntmps60
  go_wp2
  go_ret
  exact ⟨rfl, rfl⟩

set_option maxRecDepth 30000 in
set_option maxHeartbeats 2000000 in
theorem under_any (s : ByteArray) (hs : s.size ≤ 60) (w : World) : Calls Tryz.prog 101 #[.string s] w fun e w' => (∃ b : Bool, e = .returned (.bool b)) ∧ w = w' := by
  go_enter Tryz.func101, Tryz.ntmps101
  go_upto_region 3 with fail
  go_cut [18] (fun c wx => (∃ b : Bool, (b = true → 1 ≤ s.size) ∧ c = .bool b) ∧ w = wx)
  case first =>
    obtain ⟨z, hz⟩ : ∃ z : Int, (s.size : Int) = z := ⟨_, rfl⟩
    rcases Nat.eq_zero_or_pos s.size with h | h
    · have h0 := eq_false (show ¬ (1 : Int) ≤ z by omega)
      clear h
      go_wp2_with fail
      go_meet
      case rel => exact ⟨⟨false, by simp, rfl⟩, rfl⟩
    · have h0 := eq_true (show (1 : Int) ≤ z by omega)
      have h2 := eq_true h
      have h2' := eq_true (show (0 : Int) < z by omega)
      have hx := bn s 0
      have H := Aside0.mk h
      clear h
      generalize bt s ((0 : Nat) : Int) = c at hx
      by_cases g1 : c = 45
      · have p1 : (c == 45) = true := beq_iff_eq.2 g1
        clear g1
        go_wp2_with fail
        go_meet
        case rel => exact ⟨⟨true, fun _ => H.out, rfl⟩, rfl⟩
      · have p1 : (c == 45) = false := beq_eq_false_iff_ne.2 g1
        cases p2 : (c == 43)
        · go_wp2_with fail
          go_meet
          case rel => exact ⟨⟨false, by simp, rfl⟩, rfl⟩
        · go_wp2_with fail
          go_meet
          case rel => exact ⟨⟨true, fun _ => H.out, rfl⟩, rfl⟩
  case rest =>
    obtain ⟨⟨b, hb, rfl⟩, rfl⟩ := hcut
    go_upto_if 18 with fail
    go_cut [0] (fun t wx => (∃ u : ByteArray, u.size ≤ 60 ∧ t = .string u) ∧ w = wx)
    case first =>
      cases b
      · go_wp2_with fail
        go_meet
        case rel => exact ⟨⟨s, hs, rfl⟩, rfl⟩
      · have h1 := eq_true (hb rfl)
        have h2 := eq_true (show (1 : Int) ≤ (s.size : Int) by have := hb rfl; omega)
        go_wp2_with fail
        go_meet
        case rel => exact ⟨⟨_, by simp; omega, rfl⟩, rfl⟩
    case rest =>
      obtain ⟨⟨u, hu, rfl⟩, rfl⟩ := hcut
      clear hb hs
      go_upto_region 6 with fail
      go_cut [46] (fun c wx => (∃ b : Bool, (b = true → 2 ≤ u.size) ∧ c = .bool b) ∧ w = wx)
      case first =>
        obtain ⟨z, hz⟩ : ∃ z : Int, (u.size : Int) = z := ⟨_, rfl⟩
        rcases Nat.lt_or_ge u.size 2 with h | h
        · have h0 := eq_false (show ¬ (2 : Int) ≤ z by omega)
          clear h
          go_wp2_with fail
          go_meet
          case rel => exact ⟨⟨false, by simp, rfl⟩, rfl⟩
        · have h0 := eq_true (show (2 : Int) ≤ z by omega)
          have h2 := eq_true (show 0 < u.size by omega)
          have h3 := eq_true (show 1 < u.size by omega)
          have h4 := eq_true (show (0 : Int) < z by omega)
          have h5 := eq_true (show (1 : Int) < z by omega)
          have hx := bn u 0
          have hy := bn u 1
          have H := Aside0.mk h
          have HL := fun W c => lower_any c W
          clear h
          generalize bt u ((0 : Nat) : Int) = c at hx
          generalize bt u ((1 : Nat) : Int) = d at hy
          cases p1 : (c == 48)
          · go_wp2_with fail
            go_meet
            case rel => exact ⟨⟨false, by simp, rfl⟩, rfl⟩
          · cases p2 : (lw d == 98)
            · cases p3 : (lw d == 111)
              · cases p4 : (lw d == 120)
                · go_wp2_with (go_at_call 60; with_reducible refine (HL _ _).mono ?_; rintro e w2 ⟨rfl, rfl⟩)
                  go_meet
                  case rel => exact ⟨⟨false, by simp, rfl⟩, rfl⟩
                · go_wp2_with (go_at_call 60; with_reducible refine (HL _ _).mono ?_; rintro e w2 ⟨rfl, rfl⟩)
                  go_meet
                  case rel => exact ⟨⟨true, fun _ => H.out, rfl⟩, rfl⟩
              · go_wp2_with (go_at_call 60; with_reducible refine (HL _ _).mono ?_; rintro e w2 ⟨rfl, rfl⟩)
                go_meet
                case rel => exact ⟨⟨true, fun _ => H.out, rfl⟩, rfl⟩
            · go_wp2_with (go_at_call 60; with_reducible refine (HL _ _).mono ?_; rintro e w2 ⟨rfl, rfl⟩)
              go_meet
              case rel => exact ⟨⟨true, fun _ => H.out, rfl⟩, rfl⟩
      case rest =>
        obtain ⟨⟨b, hb, rfl⟩, rfl⟩ := hcut
        go_upto_if 46 with fail
        go_cut [3, 4, 5] (fun sw i hx wx => (∃ (c : Int) (k : Nat) (x : Bool), k ≤ u.size ∧ sw = .int .i32 c ∧ i = .int .i64 (k : Int) ∧ hx = .bool x) ∧ w = wx)
        case first =>
          obtain ⟨z, hz⟩ : ∃ z : Int, (u.size : Int) = z := ⟨_, rfl⟩
          cases b
          · go_wp2_with fail
            go_meet
            case rel => exact ⟨⟨94, 0, false, by omega, rfl, rfl, rfl⟩, rfl⟩
          · have H := Aside0.mk (hb rfl)
            have h3 := eq_true (show 1 < u.size by have := hb rfl; omega)
            have h5 := eq_true (show (1 : Int) < z by have := hb rfl; omega)
            have hy := bn u 1
            have HL := fun W c => lower_any c W
            generalize bt u ((1 : Nat) : Int) = d at hy
            clear hb
            go_wp2_with (go_at_call 60; with_reducible refine (HL _ _).mono ?_; rintro e w2 ⟨rfl, rfl⟩)
            go_meet
            case rel => exact ⟨⟨48, 2, _, H.out, rfl, rfl, rfl⟩, rfl⟩
        case rest =>
          obtain ⟨⟨c0, k0, x, hk0, rfl, rfl, rfl⟩, rfl⟩ := hcut
          clear hb
          have HL := fun W c => lower_any c W
          go_wp2_with fail
          go_loopw [3, 4] (fun sw i wr => (∃ (c : Int) (k : Nat), k ≤ u.size ∧ sw = .int .i32 c ∧ i = .int .i64 (k : Int)) ∧ w = wr) (fun _ i _ => u.size - (RowKit.intOf i).toNat)
          case atStart => exact ⟨⟨c0, k0, hk0, rfl, rfl⟩, rfl⟩
          case round =>
            obtain ⟨⟨c, k, hk, rfl, rfl⟩, rfl⟩ := hrel
            clear hk0
            rcases Nat.lt_or_ge k u.size with h | h
            · have p1 := eq_true (show (k : Int) < (u.size : Int) by omega)
              have hx1 := bn u k
              have ms : u.size - ((k : Int) + 1).toNat < u.size - (k : Int).toNat := by omega
              have MS := Aside0.mk ms
              have HK := Aside0.mk (show k + 1 ≤ u.size by omega)
              clear ms
              generalize bt u ((k : Nat) : Int) = d at hx1
              go_upto_region 12 with fail
              go_cut [83] (fun c wx => (∃ b : Bool, c = .bool b) ∧ w = wx)
              case first =>
                cases e1 : (decide ((48 : Int) ≤ d)) <;> cases e2 : (decide (d ≤ (57 : Int))) <;> cases x <;> cases e3 : (decide ((97 : Int) ≤ lw d)) <;> cases e4 : (decide (lw d ≤ (102 : Int)))
                all_goals (go_wp2_with (go_at_call 60; with_reducible refine (HL _ _).mono ?_; rintro e w2 ⟨rfl, rfl⟩))
                all_goals (go_meet; exact ⟨⟨_, rfl⟩, rfl⟩)
              case rest =>
                obtain ⟨⟨b, rfl⟩, rfl⟩ := hcut
                cases b
                · cases e7 : (d == 95)
                  · cases e5 : (c == 95)
                    · go_wp2
                      go_roundw
                      case measure => exact MS.out
                      case rel => exact ⟨⟨_, _, HK.out, rfl, rfl⟩, trivial⟩
                    · go_wp2
                      go_ret
                      exact ⟨⟨_, rfl⟩, rfl⟩
                  · cases e6 : (c != 48)
                    · go_wp2
                      go_roundw
                      case measure => exact MS.out
                      case rel => exact ⟨⟨_, _, HK.out, rfl, rfl⟩, trivial⟩
                    · go_wp2
                      go_ret
                      exact ⟨⟨_, rfl⟩, rfl⟩
                · go_wp2
                  go_roundw
                  case measure => exact MS.out
                  case rel => exact ⟨⟨_, _, HK.out, rfl, rfl⟩, trivial⟩
            · have p1 := eq_false (show ¬ (k : Int) < (u.size : Int) by omega)
              have p2 := eq_false (show ¬ k < u.size by omega)
              go_wp2
              go_ret
              exact ⟨⟨_, rfl⟩, rfl⟩
end Go.Proofs.YtjniglmijikojaaGreatDoor.Text
namespace Go.Proofs.YtjniglmijikojaaGreatDoor.Text
set_option linter.unusedSimpArgs false
set_option linter.unusedVariables false
open Go.RowKit Go.Lib Go.Proofs.YtjniglmijikojaaGreatDoor.Own Go.Proofs.YtjniglmijikojaaGreatDoorW.PrintWords

/-- What readFloat makes of the bytes. -/
def reads (l : List Int) : Option (Nat × Int × Bool × Bool × List Int) :=
  behind (isHex (signed l).2) (scan (isHex (signed l).2) (unhex (signed l).2) rs0)

/-- What readFloat tells: 'yes' with what the bytes say, or 'no', where they say nothing or hold underscores. -/
def RfRes (l : List Int) (w : World) (e' : Ending) (w' : World) : Prop :=
  ∃ (m : Nat) (E : Int) (tr : Bool) (i : Nat) (ok : Bool), e' = .returned (.tuple #[.int .u64 (m : Int), .int .i64 E, .bool (signed l).1, .bool tr, .bool (isHex (signed l).2), .int .i64 (i : Int), .bool ok]) ∧ w = w' ∧
    m < 18446744073709551616 ∧ -200000 ≤ E ∧ E ≤ 200000 ∧ i ≤ l.length ∧
    ((ok = true ∧ ∃ us rest, reads l = some (m, E, tr, us, rest) ∧ i + rest.length = l.length) ∨ (ok = false ∧ (reads l = none ∨ ∃ m E tr rest, reads l = some (m, E, tr, true, rest))))

structure Drops (s : ByteArray) (l : List Int) : Prop where
  len : l.length = s.size
  on : ∀ k, k < s.size → l.drop k = bt s k :: l.drop (k + 1)
  off : l.drop s.size = []
theorem drops_of (s : ByteArray) : Drops s (bytes s) :=
  ⟨bytes_len s, fun k h => by rw [bytes_at s k h]; exact congrArg (· :: _) (bn s k h), by rw [List.drop_eq_nil_iff, bytes_len]; exact Nat.le_refl _⟩

theorem sg_p {l r : List Int} (h : l = 43 :: r) : signed l = (false, r) := by rw [h]; rfl
theorem sg_m {l r : List Int} (h : l = 45 :: r) : signed l = (true, r) := by rw [h]; rfl
theorem sg_o {l r : List Int} {c : Int} (h : l = c :: r) (h1 : c ≠ 43) (h2 : c ≠ 45) : signed l = (false, l) := by
  subst h
  unfold signed
  split
  · rename_i e; cases e; exact absurd rfl h1
  · rename_i e; cases e; exact absurd rfl h2
  · rfl
theorem hex_of {s : ByteArray} {l : List Int} (D : Drops s l) (k : Nat) : isHex (l.drop k) = (decide (k + 2 < s.size) && ((bt s (k : Int) == 48) && (lw (bt s ((k + 1 : Nat) : Int)) == 120))) := by
  by_cases h : k + 2 < s.size
  · rw [D.on k (by omega), D.on (k + 1) (by omega), D.on (k + 1 + 1) (by omega), decide_eq_true h]
    rfl
  · have hl : (l.drop k).length ≤ 2 := by rw [List.length_drop, D.len]; omega
    rw [decide_eq_false h, Bool.false_and]
    generalize l.drop k = m at hl
    match m, hl with
    | [], _ => rfl
    | [_], _ => rfl
    | [_, _], _ => rfl

def hexB (b : Bool) (w wx : World) (s : ByteArray) (l : List Int) (i : Value) (hx bs mx xc : Value) : Prop :=
  ∃ k0 : Nat, k0 ≤ 3 ∧ k0 ≤ s.size ∧ i = .int .i64 (k0 : Int) ∧ hx = .bool b ∧ bs = .int .u64 (base b : Int) ∧ mx = .int .i64 (most b : Int) ∧ xc = .int .u8 (xch b) ∧ l.drop k0 = unhex (signed l).2 ∧ w = wx

set_option maxRecDepth 30000 in
theorem read_0 (s : ByteArray) (h : s.size = 0) (w : World) : Calls Tryz.prog 80 #[.string s] w (RfRes (bytes s) w) := by
  have hD := drops_of s
  generalize bytes s = l at *
  have h0 : ((s.size : Nat) : Int) = 0 := by omega
  have hl : l = [] := List.length_eq_zero_iff.1 (by rw [hD.len, h])
  subst hl
  clear h hD
  have HR : RfRes [] w (.returned (.tuple #[.int .u64 0, .int .i64 0, .bool false, .bool false, .bool false, .int .i64 0, .bool false])) w :=
    ⟨0, 0, false, 0, false, rfl, rfl, by decide, by decide, by decide, by decide, .inr ⟨rfl, .inl rfl⟩⟩
  have HR' := Aside0.mk HR
  clear HR
  go_enter Tryz.func80, Tryz.ntmps80
  go_wp2
  go_step3
  go_wp2
  rw [Exit.noGoto_ret]
  go_returns
  exact HR'.out

end Go.Proofs.YtjniglmijikojaaGreatDoor.Text
