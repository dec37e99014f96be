/- decimal.set: its contract: it tells no, or the block holds a decimal. The conditions: the text is of at most 60 bytes; the block holds a decimal that is nought. -/
import Derived.Test.YtjniglmijikojaaGreatDoorGMyShift
import Derived.Test.YtjniglmijikojaaGreatDoorGMyHexF
namespace Go.Proofs.YtjniglmijikojaaGreatDoor.Text
set_option linter.unusedSimpArgs false
set_option linter.unusedVariables false
open Go.RowKit Go.Lib Go.Proofs.YtjniglmijikojaaGreatDoor.Own Go.Proofs.YtjniglmijikojaaGreatDoorW.PrintWords

/-- A decimal that is being read: k bytes of the text are behind. -/
structure Part (w : World) (g k : Nat) (f : Nat → Int) (nd : Nat) (dp : Int) : Prop where
  dec : Dec w g f nd dp
  le : nd ≤ k
  lo : -(k : Int) ≤ dp
  hi : dp ≤ (k : Int)
  digs : Digs f nd
  top : 0 < nd → f 0 ≠ 48
/-- A decimal that has been read. -/
structure Good (w : World) (g : Nat) (f : Nat → Int) (nd : Nat) (dp : Int) : Prop where
  dec : Dec w g f nd dp
  le : nd ≤ 800
  lo : -300000 ≤ dp
  hi : dp ≤ 300000
  digs : Digs f nd
  top : 0 < nd → f 0 ≠ 48
theorem Part.good {w : World} {g k : Nat} {f : Nat → Int} {nd : Nat} {dp : Int} (h : Part w g k f nd dp) (hk : k ≤ 60) : Good w g f nd dp :=
  ⟨h.dec, by have := h.le; omega, by have := h.lo; omega, by have := h.hi; omega, h.digs, h.top⟩
theorem Part.more {w : World} {g k : Nat} {f : Nat → Int} {nd : Nat} {dp : Int} (h : Part w g k f nd dp) : Part w g (k + 1) f nd dp :=
  ⟨h.dec, by have := h.le; omega, by have := h.lo; omega, by have := h.hi; omega, h.digs, h.top⟩
theorem Part.point {w : World} {g k : Nat} {f : Nat → Int} {nd : Nat} {dp : Int} (h : Part w g k f nd dp) : Part (w.setCell ⟨g, 801, none⟩ (.int .i64 (nd : Int))) g k f nd (nd : Int) :=
  ⟨h.dec.setDp _, h.le, by omega, by have := h.le; omega, h.digs, h.top⟩
theorem Part.nought {w : World} {g k : Nat} {f : Nat → Int} {nd : Nat} {dp : Int} (h : Part w g k f nd dp) : Part (w.setCell ⟨g, 801, none⟩ (.int .i64 (dp - 1))) g (k + 1) f nd (dp - 1) :=
  ⟨h.dec.setDp _, by have := h.le; omega, by have := h.lo; omega, by have := h.hi; omega, h.digs, h.top⟩
theorem Part.digit {w : World} {g k : Nat} {f : Nat → Int} {nd : Nat} {dp c : Int} (h : Part w g k f nd dp) (hk : k ≤ 60) (c1 : 48 ≤ c) (c2 : c ≤ 57) (h0 : nd = 0 → c ≠ 48) :
    Part ((w.setCell ⟨g, nd, none⟩ (.int .u8 c)).setCell ⟨g, 800, none⟩ (.int .i64 ((nd : Int) + 1))) g (k + 1) (updI f nd c) (nd + 1) dp :=
  ⟨(h.dec.setD nd (by have := h.le; omega) c).setNd (nd + 1), by have := h.le; omega, by have := h.lo; omega, by have := h.hi; omega,
    fun i hi => by
      unfold updI
      split
      · exact ⟨c1, c2⟩
      · exact h.digs i (by omega),
    fun _ => by
      unfold updI
      split
      · rename_i e
        exact h0 e.symm
      · exact h.top (by omega)⟩
theorem Part.drew {w : World} {g k : Nat} {f : Nat → Int} {nd : Nat} {dp : Int} (h : Part w g k f nd dp) : Part w.drew g k f nd dp := ⟨h.dec.drew, h.le, h.lo, h.hi, h.digs, h.top⟩
/-- What set tells. -/
def SetRes (g : Nat) (w : World) (e : Ending) (w' : World) : Prop := ∃ ok : Bool, e = .returned (.bool ok) ∧ (ok = true → ∃ f nd dp, Good w' g f nd dp) ∧ Below g w w'
theorem dset_not {g : Nat} {w w' : World} (h : Below g w w') : SetRes g w (.returned (.bool false)) w' := ⟨false, rfl, (fun h => nomatch h), h⟩
theorem dset_yes {g : Nat} {w w' : World} {f : Nat → Int} {nd : Nat} {dp : Int} (h : Below g w w') (hg : Good w' g f nd dp) : SetRes g w (.returned (.bool true)) w' := ⟨true, rfl, fun _ => ⟨f, nd, dp, hg⟩, h⟩
/-- Where the digits are read up to k. -/
def SetAt (s : ByteArray) (g : Nat) (w : World) (i sd sg : Value) (wx : World) : Prop :=
  ∃ (k : Nat) (a b : Bool) (f : Nat → Int) (nd : Nat) (dp : Int), i = .int .i64 (k : Int) ∧ sd = .bool a ∧ sg = .bool b ∧ k ≤ s.size ∧ Part wx g k f nd dp ∧ Below g w wx

set_option maxRecDepth 30000 in
theorem dset_0 (s : ByteArray) (h : s.size = 0) (w : World) (g : Nat) (f : Nat → Int) (hd : Dec w g f 0 0) : Calls Tryz.prog 86 #[.pointer (some ⟨g, 0, none⟩), .string s] w (SetRes g w) := by
  have hlt := hd.lt
  have hfz := hd.fz
  obtain ⟨_, c2⟩ := hd.neg
  obtain ⟨_, c3⟩ := hd.tr
  have c4 : ∀ v, (w.setCell ⟨g, 802, none⟩ v).cell? ⟨g, 803, none⟩ = w.cell? ⟨g, 803, none⟩ := fun v => cs_other (addr_ne (by omega))
  clear hd
  go_enter Tryz.func86, Tryz.ntmps86
  go_wp2
  go_returns
  exact dset_not (((Below.refl g w).setCell (p := ⟨g, 802, none⟩) (Nat.le_refl _) (.bool false)).setCell (p := ⟨g, 803, none⟩) (Nat.le_refl _) (.bool false))

set_option maxRecDepth 30000 in
set_option maxHeartbeats 4000000 in
theorem dset_1 (s : ByteArray) (h : 0 < s.size) (hs : s.size ≤ 60) (w : World) (g : Nat) (f : Nat → Int) (hd : Dec w g f 0 0) : Calls Tryz.prog 86 #[.pointer (some ⟨g, 0, none⟩), .string s] w (SetRes g w) := by
  obtain ⟨z, hz⟩ : ∃ z : Int, (s.size : Int) = z := ⟨_, rfl⟩
  have hz1 : 0 < z := by omega
  have hz2 : z ≤ 60 := by omega
  have HH := Aside0.mk h
  have HS := Aside0.mk hs
  have HZ := Aside0.mk hz
  have h2 := eq_true h
  have HD := Aside0.mk hd
  have hlt := hd.lt
  have hfz := hd.fz
  obtain ⟨_, c2⟩ := hd.neg
  obtain ⟨_, c3⟩ := hd.tr
  have c4 : ∀ v, (w.setCell ⟨g, 802, none⟩ v).cell? ⟨g, 803, none⟩ = w.cell? ⟨g, 803, none⟩ := fun v => cs_other (addr_ne (by omega))
  have HL := fun W c => lower_any c W
  clear hd h hs
  go_enter Tryz.func86, Tryz.ntmps86
  go_upto_block 0 with fail
  go_cut [5] from 23 to 33 (fun i wx => ∃ k : Nat, i = .int .i64 (k : Int) ∧ k ≤ s.size ∧ Part wx g k f 0 0 ∧ Below g w wx)
  case first =>
    have HB1 := Aside0.mk (((Below.refl g w).setCell (p := ⟨g, 802, none⟩) (Nat.le_refl _) (.bool false)).setCell (p := ⟨g, 803, none⟩) (Nat.le_refl _) (.bool false))
    have hd1 := (HD.out.setNeg false).setTr false
    have HD1 := Aside0.mk hd1
    obtain ⟨_, d2⟩ := hd1.neg
    have dlt := hd1.lt
    have dfz := hd1.fz
    have hx := bn s 0
    rw [show ((0 : Nat) : Int) = 0 from rfl] at hx
    generalize bt s 0 = c at hx
    clear hd1
    by_cases g1 : c = 43
    · subst g1
      go_wp2_with fail
      go_meet
      case rel => exact ⟨1, rfl, HH.out, ⟨HD1.out, by omega, by omega, by omega, fun i hi => by omega, fun hi => by omega⟩, HB1.out⟩
    · by_cases g2 : c = 45
      · subst g2
        go_wp2_with fail
        go_meet
        case rel => exact ⟨1, rfl, HH.out, ⟨HD1.out.setNeg true, by omega, by omega, by omega, fun i hi => by omega, fun hi => by omega⟩, HB1.out.setCell (Nat.le_refl _) _⟩
      · have p1 : (c == 43) = false := beq_eq_false_iff_ne.2 g1
        have p2 : (c == 45) = false := beq_eq_false_iff_ne.2 g2
        clear g1 g2
        go_wp2_with fail
        go_meet
        case rel => exact ⟨0, rfl, by omega, ⟨HD1.out, by omega, by omega, by omega, fun i hi => by omega, fun hi => by omega⟩, HB1.out⟩
  case rest =>
    clear c2 c3 c4 hlt hfz HD h2
    obtain ⟨k0, rfl, hk0, hp, hb⟩ := hcut
    have HP0 := Aside0.mk hp
    have HB0 := Aside0.mk hb
    have HK0 := Aside0.mk hk0
    clear hp hb hk0
    go_upto_block 1 with fail
    go_cut [5, 6, 7] from 34 to 116 (fun i sd sg wx => SetAt s g w i sd sg wx)
    case first =>
      go_wp2_with fail
      go_loopw [5, 6, 7] (fun i sd sg wr => SetAt s g w i sd sg wr) (fun i _ _ _ => s.size - (RowKit.intOf i).toNat)
      case atStart => exact ⟨k0, false, false, f, 0, 0, rfl, rfl, rfl, HK0.out, HP0.out, HB0.out⟩
      case round =>
        clear HP0 HB0 HK0
        obtain ⟨k, a, b, f1, nd, dp, rfl, rfl, rfl, hk, hp, hb⟩ := hrel
        have HP := Aside0.mk hp
        have HB := Aside0.mk hb
        have HK := Aside0.mk hk
        rcases Nat.lt_or_ge k s.size with h | h
        · have q1 := eq_true (show (k : Int) < z by omega)
          have q2 := eq_true h
          have hx1 := bn s k
          have ms : s.size - ((k : Int) + 1).toNat < s.size - (k : Int).toNat := by omega
          have MS := Aside0.mk ms
          have HKN := Aside0.mk (show k + 1 ≤ s.size by omega)
          have hr := bt_range s k
          generalize bt s (k : Int) = c at hx1 hr
          have hk60 : (k : Int) < 60 := by have := HS.out; omega
          have HK60 := Aside0.mk (show k ≤ 60 by omega)
          have hnd : nd ≤ 60 := by have := hp.le; omega
          have hlo : -60 ≤ dp := by have := hp.lo; omega
          have hhi : dp ≤ 60 := by have := hp.hi; omega
          have c0 := hp.dec.nd
          have c1 := hp.dec.dp
          have hlt := hp.dec.lt
          have hfz := hp.dec.fz
          clear ms h hp hb hk
          by_cases c1' : c = 95
          · subst c1'
            go_wp2_with fail
            go_roundw
            case measure => exact MS.out
            case rel => exact ⟨k + 1, a, b, f1, nd, dp, rfl, rfl, rfl, HKN.out, HP.out.more, HB.out⟩
          · have p1 : (c == 95) = false := beq_eq_false_iff_ne.2 c1'
            by_cases c2 : c = 46
            · subst c2
              cases a
              · go_wp2_with fail
                go_roundw
                case measure => exact MS.out
                case rel => exact ⟨k + 1, true, b, f1, nd, (nd : Int), rfl, rfl, rfl, HKN.out, HP.out.point.more, HB.out.setCell (Nat.le_refl _) _⟩
              · go_wp2
                go_returns
                exact dset_not HB.out
            · have p2 : (c == 46) = false := beq_eq_false_iff_ne.2 c2
              by_cases c3 : 48 ≤ c ∧ c ≤ 57
              · have p3 := eq_true c3.1
                have p4 := eq_true c3.2
                have C3 := Aside0.mk c3
                by_cases c5 : c = 48
                · subst c5
                  by_cases c4 : nd = 0
                  · subst c4
                    clear c3 c1' c2
                    go_wp2_with fail
                    go_roundw
                    case measure => exact MS.out
                    case rel => exact ⟨k + 1, a, true, f1, 0, (dp - 1), rfl, rfl, rfl, HKN.out, HP.out.nought, HB.out.setCell (Nat.le_refl _) _⟩
                  · have p5 : ((nd : Int) == 0) = false := beq_eq_false_iff_ne.2 (by omega)
                    have p6 := eq_true (show (nd : Int) < 800 by omega)
                    have p7 := eq_true (show nd < 800 by omega)
                    have e0 := HP.out.dec.cell nd (by omega)
                    have e1 : ∀ v, (wr.setCell ⟨g, nd, none⟩ v).cell? ⟨g, 800, none⟩ = wr.cell? ⟨g, 800, none⟩ := fun v => cs_other (addr_ne (by omega))
                    have C4 := Aside0.mk c4
                    clear c3 c1' c2 c4
                    go_wp2
                    go_region
                    go_wp2_with fail
                    go_roundw
                    case measure => exact MS.out
                    case rel => exact ⟨k + 1, a, true, updI f1 nd 48, nd + 1, dp, rfl, rfl, rfl, HKN.out, (HP.out.digit (c := 48) HK60.out (by omega) (by omega) (fun e => (C4.out e).elim)).drew, ((HB.out.setCell (Nat.le_refl _) _).setCell (Nat.le_refl _) _).drew⟩
                · have p5 : (c == 48) = false := beq_eq_false_iff_ne.2 c5
                  have p6 := eq_true (show (nd : Int) < 800 by omega)
                  have p7 := eq_true (show nd < 800 by omega)
                  have e0 := HP.out.dec.cell nd (by omega)
                  have e1 : ∀ v, (wr.setCell ⟨g, nd, none⟩ v).cell? ⟨g, 800, none⟩ = wr.cell? ⟨g, 800, none⟩ := fun v => cs_other (addr_ne (by omega))
                  have C5 := Aside0.mk c5
                  clear c3 c1' c2 c5
                  go_wp2
                  go_region
                  go_wp2_with fail
                  go_roundw
                  case measure => exact MS.out
                  case rel => exact ⟨k + 1, a, true, updI f1 nd c, nd + 1, dp, rfl, rfl, rfl, HKN.out, (HP.out.digit HK60.out C3.out.1 C3.out.2 (fun _ => C5.out)).drew, ((HB.out.setCell (Nat.le_refl _) _).setCell (Nat.le_refl _) _).drew⟩
              · have C3 := Aside0.mk c3
                rcases (show ¬ 48 ≤ c ∨ (48 ≤ c ∧ ¬ c ≤ 57) by omega) with g1 | ⟨g1, g2⟩
                · have p3 := eq_false g1
                  clear g1 c3 c1' c2
                  go_wp2_with fail
                  go_meet
                  case rel => exact ⟨k, a, b, f1, nd, dp, rfl, rfl, rfl, HK.out, HP.out, HB.out⟩
                · have p3 := eq_true g1
                  have p4 := eq_false g2
                  clear g1 g2 c3 c1' c2
                  go_wp2_with fail
                  go_meet
                  case rel => exact ⟨k, a, b, f1, nd, dp, rfl, rfl, rfl, HK.out, HP.out, HB.out⟩
        · have q1 := eq_false (show ¬ (k : Int) < z by omega)
          clear hp hb hk h
          go_wp2_with fail
          go_meet
          case rel => exact ⟨k, a, b, f1, nd, dp, rfl, rfl, rfl, HK.out, HP.out, HB.out⟩
    case rest =>
      clear HP0 HB0 HK0
      obtain ⟨k, a, b, f1, nd, dp, rfl, rfl, rfl, hk, hp, hb⟩ := hcut
      have HB := Aside0.mk hb
      have HP := Aside0.mk hp
      have HK := Aside0.mk hk
      have c0 := hp.dec.nd
      have c1 := hp.dec.dp
      have hlt := hp.dec.lt
      have hfz := hp.dec.fz
      clear hp hb hk
      cases b
      · go_wp2
        go_returns
        exact dset_not HB.out
      · go_upto_if 120 with fail
        go_cut [] from 117 to 127 (fun wx => ∃ (f : Nat → Int) (nd : Nat) (dp : Int), Part wx g k f nd dp ∧ Below g w wx)
        case first =>
          cases a
          · go_wp2_with fail
            go_meet
            case rel => exact ⟨f1, nd, _, HP.out.point, HB.out.setCell (Nat.le_refl _) _⟩
          · go_wp2_with fail
            go_meet
            case rel => exact ⟨f1, nd, dp, HP.out, HB.out⟩
        case rest =>
          clear HP HB c0 c1 hlt hfz
          obtain ⟨f2, nd2, dp2, hp, hb⟩ := hcut
          have HB := Aside0.mk hb
          have HP := Aside0.mk hp
          have hlo : -60 ≤ dp2 := by have := hp.lo; have := HK.out; have := HS.out; omega
          have hhi : dp2 ≤ 60 := by have := hp.hi; have := HK.out; have := HS.out; omega
          have hk60 : (k : Int) ≤ 60 := by have := HK.out; have := HS.out; omega
          have c0 := hp.dec.nd
          have c1 := hp.dec.dp
          have hlt := hp.dec.lt
          have hfz := hp.dec.fz
          clear hp hb
          obtain ⟨bX, hbX⟩ : ∃ bX : Bool, (decide (k < s.size) && (lw (bt s (k : Int)) == 101)) = bX := ⟨_, rfl⟩
          have HBX := Aside0.mk hbX
          clear hbX
          go_upto_region 32 with fail
          go_cut [138] from 128 to 138 (fun b wx => b = .bool bX ∧ wc = wx)
          case first =>
            rcases Nat.lt_or_ge k s.size with h | h
            · have q1 := eq_true (show (k : Int) < z by omega)
              have q2 := eq_true h
              have hx1 := bn s k
              have E := HBX.out
              rw [decide_eq_true h, Bool.true_and] at E
              generalize bt s (k : Int) = c at hx1 E
              have E' := Aside0.mk E
              clear E h
              go_wp2_with (go_at_call 60; with_reducible refine (HL _ _).mono ?_; rintro e w2 ⟨rfl, rfl⟩)
              go_meet
              case rel => exact ⟨by rw [← E'.out], rfl⟩
            · have q1 := eq_false (show ¬ (k : Int) < z by omega)
              have E := HBX.out
              rw [decide_eq_false (by omega), Bool.false_and] at E
              have E' := Aside0.mk E
              clear E h
              go_wp2_with fail
              go_meet
              case rel => exact ⟨by rw [← E'.out], rfl⟩
          case rest =>
            obtain ⟨rfl, rfl⟩ := hcut
            go_upto_if 138 with fail
            go_cut [5, 8, 9] from 139 to 219 (fun i _ _ wx => ∃ (k : Nat) (f : Nat → Int) (nd : Nat) (dp : Int), i = .int .i64 (k : Int) ∧ k ≤ s.size ∧ Good wx g f nd dp ∧ Below g w wx)
            case first =>
              cases bX
              · go_wp2_with fail
                go_meet
                case rel => exact ⟨k, f2, nd2, dp2, rfl, HK.out, HP.out.good (by have := HK.out; have := HS.out; omega), HB.out⟩
              · have hkl : k < s.size := of_decide_eq_true (Bool.and_eq_true_iff.1 HBX.out).1
                have HK1 := Aside0.mk (show k + 1 ≤ s.size from hkl)
                have hk59 : (k : Int) < 60 := by have := HS.out; omega
                have HKL := Aside0.mk hkl
                clear hkl
                rcases (show k + 1 < s.size ∨ k + 1 = s.size by have := HK1.out; omega) with h | h
                · have q1 := eq_false (show ¬ z ≤ (k : Int) + 1 by omega)
                  have q2 := eq_true h
                  have q3 := eq_true (show (k : Int) + 1 < z by omega)
                  have H1 := Aside0.mk h
                  have hx1 := bn s (k + 1)
                  rw [show ((k + 1 : Nat) : Int) = (k : Int) + 1 from rfl] at hx1
                  have hr1 := bt_range s (k + 1)
                  generalize bt s ((k : Int) + 1) = c at hx1
                  clear h
                  go_upto_block 4 with fail
                  go_cut [5, 8] from 148 to 155 (fun i es wx => ∃ (k : Nat) (σ : Int), i = .int .i64 (k : Int) ∧ es = .int .i64 σ ∧ (σ = 1 ∨ σ = -1) ∧ k ≤ s.size ∧ wc = wx)
                  case first =>
                    by_cases g1 : c = 43
                    · subst g1
                      go_wp2_with fail
                      go_meet
                      case rel => exact ⟨k + 2, 1, by first | rfl | exact congrArg (Value.int .i64) (by omega), rfl, .inl rfl, H1.out, rfl⟩
                    · by_cases g2 : c = 45
                      · subst g2
                        go_wp2_with fail
                        go_meet
                        case rel => exact ⟨k + 2, -1, by first | rfl | exact congrArg (Value.int .i64) (by omega), rfl, .inr rfl, H1.out, rfl⟩
                      · have p1 : (c == 43) = false := beq_eq_false_iff_ne.2 g1
                        have p2 : (c == 45) = false := beq_eq_false_iff_ne.2 g2
                        clear g1 g2
                        go_wp2_with fail
                        go_meet
                        case rel => exact ⟨k + 1, 1, rfl, rfl, .inl rfl, HK1.out, rfl⟩
                  case rest =>
                    clear hx1 q1 q2 q3
                    obtain ⟨j, σ, rfl, rfl, hσ, hj, rfl⟩ := hcut
                    have HJ := Aside0.mk hj
                    have HSG := Aside0.mk hσ
                    have hσ1 : -1 ≤ σ := by omega
                    have hσ2 : σ ≤ 1 := by omega
                    have hj60 : (j : Int) ≤ 60 := by have := HS.out; omega
                    clear hj hσ
                    go_upto_region 42 with fail
                    go_cut [171] from 156 to 171 (fun b wx => ∃ bY : Bool, b = .bool bY ∧ (bY = false → j < s.size) ∧ wc = wx)
                    case first =>
                      rcases Nat.lt_or_ge j s.size with h | h
                      · have q1 := eq_false (show ¬ z ≤ (j : Int) by omega)
                        have q1' := eq_true (show (j : Int) < z by omega)
                        have q2 := eq_true h
                        have H1 := Aside0.mk h
                        have hx1 := bn s j
                        generalize bt s (j : Int) = c at hx1
                        clear h
                        rcases Int.lt_or_le c 48 with e1 | e1
                        · have q4 := eq_true e1
                          clear e1
                          go_wp2_with fail
                          go_meet
                          case rel => exact ⟨_, rfl, fun _ => H1.out, rfl⟩
                        · have q4 := eq_false (show ¬ c < 48 by omega)
                          have q5 : decide (c > 57) = decide (57 < c) := rfl
                          clear e1
                          go_wp2_with fail
                          go_meet
                          case rel => exact ⟨_, rfl, fun _ => H1.out, rfl⟩
                      · have q1 := eq_true (show z ≤ (j : Int) by omega)
                        clear h
                        go_wp2_with fail
                        go_meet
                        case rel => exact ⟨true, rfl, (fun h => nomatch h), rfl⟩
                    case rest =>
                      obtain ⟨bY, rfl, hY, rfl⟩ := hcut
                      have HY := Aside0.mk hY
                      clear hY
                      cases bY
                      · go_upto_block 5 with fail
                        go_cut [5, 9] from 172 to 209 (fun i e wx => ∃ (k : Nat) (E : Int), i = .int .i64 (k : Int) ∧ e = .int .i64 E ∧ 0 ≤ E ∧ E ≤ 200000 ∧ k ≤ s.size ∧ wc = wx)
                        case first =>
                          go_wp2_with fail
                          go_loopw [5, 9] (fun i e wr => ∃ (k : Nat) (E : Int), i = .int .i64 (k : Int) ∧ e = .int .i64 E ∧ 0 ≤ E ∧ E ≤ 200000 ∧ k ≤ s.size ∧ wc = wr) (fun i _ _ => s.size - (RowKit.intOf i).toNat)
                          case atStart => exact ⟨j, 0, rfl, rfl, by omega, by omega, HJ.out, rfl⟩
                          case round =>
                            obtain ⟨n, E, rfl, rfl, hE0, hE1, hn, rfl⟩ := hrel
                            have HN := Aside0.mk hn
                            have HE := Aside0.mk (show 0 ≤ E ∧ E ≤ 200000 from ⟨hE0, hE1⟩)
                            have hn60 : (n : Int) ≤ 60 := by have := HS.out; omega
                            rcases Nat.lt_or_ge n s.size with h | h
                            · have q1 := eq_true (show (n : Int) < z by omega)
                              have q2 := eq_true h
                              have hx1 := bn s n
                              have hr := bt_range s n
                              have MS := Aside0.mk (show s.size - ((n : Int) + 1).toNat < s.size - (n : Int).toNat by omega)
                              have HN1 := Aside0.mk (show n + 1 ≤ s.size from h)
                              generalize bt s (n : Int) = c at hx1 hr
                              clear h hn
                              by_cases c1 : c = 95
                              · subst c1
                                go_wp2_with fail
                                go_roundw
                                case measure => exact MS.out
                                case rel => exact ⟨n + 1, E, rfl, rfl, HE.out.1, HE.out.2, HN1.out, trivial⟩
                              · have p1 : (c == 95) = false := beq_eq_false_iff_ne.2 c1
                                by_cases c3 : 48 ≤ c ∧ c ≤ 57
                                · have p3 := eq_true c3.1
                                  have p4 := eq_true c3.2
                                  by_cases c4 : E < 10000
                                  · have p5 := eq_true c4
                                    have HX := Aside0.mk (show 0 ≤ E * 10 + c - 48 ∧ E * 10 + c - 48 ≤ 200000 by omega)
                                    go_wp2_with fail
                                    go_roundw
                                    case measure => exact MS.out
                                    case rel => exact ⟨n + 1, _, rfl, rfl, HX.out.1, HX.out.2, HN1.out, trivial⟩
                                  · have p5 := eq_false c4
                                    go_wp2_with fail
                                    go_roundw
                                    case measure => exact MS.out
                                    case rel => exact ⟨n + 1, E, rfl, rfl, HE.out.1, HE.out.2, HN1.out, trivial⟩
                                · rcases (show ¬ 48 ≤ c ∨ (48 ≤ c ∧ ¬ c ≤ 57) by omega) with g1 | ⟨g1, g2⟩
                                  · have p3 := eq_false g1
                                    clear g1 c3 c1
                                    go_wp2_with fail
                                    go_meet
                                    case rel => exact ⟨n, E, rfl, rfl, HE.out.1, HE.out.2, HN.out, rfl⟩
                                  · have p3 := eq_true g1
                                    have p4 := eq_false g2
                                    clear g1 g2 c3 c1
                                    go_wp2_with fail
                                    go_meet
                                    case rel => exact ⟨n, E, rfl, rfl, HE.out.1, HE.out.2, HN.out, rfl⟩
                            · have q1 := eq_false (show ¬ (n : Int) < z by omega)
                              clear h hn
                              go_wp2_with fail
                              go_meet
                              case rel => exact ⟨n, E, rfl, rfl, HE.out.1, HE.out.2, HN.out, rfl⟩
                        case rest =>
                          obtain ⟨n, E, rfl, rfl, hE0, hE1, hn, rfl⟩ := hcut
                          have HN := Aside0.mk hn
                          have HE := Aside0.mk (show 0 ≤ E ∧ E ≤ 200000 from ⟨hE0, hE1⟩)
                          obtain ⟨T, hT⟩ : ∃ T, E * σ = T := ⟨_, rfl⟩
                          have hT1 : -200000 ≤ T := by rcases HSG.out with e | e <;> rw [e] at hT <;> omega
                          have hT2 : T ≤ 200000 := by rcases HSG.out with e | e <;> rw [e] at hT <;> omega
                          clear hn
                          go_wp2_with fail
                          go_meet
                          case rel => exact ⟨n, f2, nd2, dp2 + T, rfl, HN.out, ⟨HP.out.dec.setDp _, by have := HP.out.le; have := HK.out; have := HS.out; omega, by omega, by omega, HP.out.digs, HP.out.top⟩, HB.out.setCell (Nat.le_refl _) _⟩
                      · go_wp2
                        go_returns
                        exact dset_not HB.out
                · have q1 := eq_true (show z ≤ (k : Int) + 1 by omega)
                  clear h
                  go_wp2
                  go_returns
                  exact dset_not HB.out
            case rest =>
              clear HP HB c0 c1 hlt hfz HK HBX hlo hhi hk60
              obtain ⟨n, f3, nd3, dp3, rfl, hn, hg, hb⟩ := hcut
              have HG := Aside0.mk hg
              have HB := Aside0.mk hb
              clear hg hb
              by_cases h : n = s.size
              · have q : ((n : Int) != z) = false := by rw [show (n : Int) = z by omega]; exact bne_self_eq_false _
                clear h hn
                go_wp2
                go_returns
                exact dset_yes HB.out HG.out
              · have q : ((n : Int) != z) = true := bne_iff_ne.2 (by omega)
                clear h hn
                go_wp2
                go_returns
                exact dset_not HB.out

theorem dset_any (s : ByteArray) (hs : s.size ≤ 60) (w : World) (g : Nat) (f : Nat → Int) (hd : Dec w g f 0 0) : Calls Tryz.prog 86 #[.pointer (some ⟨g, 0, none⟩), .string s] w (SetRes g w) := by
  rcases Nat.eq_zero_or_pos s.size with h | h
  · exact dset_0 s h w g f hd
  · exact dset_1 s h hs w g f hd
end Go.Proofs.YtjniglmijikojaaGreatDoor.Text
