/- readFloat: its contract. The condition: the text is of at most 60 bytes. -/
import Derived.Test.YtjniglmijikojaaGreatDoorGMyHexF
import Derived.Test.YtjniglmijikojaaGreatDoorGMyScale
namespace Go.Proofs.YtjniglmijikojaaGreatDoor.Text
set_option linter.unusedSimpArgs false
set_option linter.unusedVariables false
open Go.RowKit Go.Lib Go.Proofs.YtjniglmijikojaaGreatDoor.Own Go.Proofs.YtjniglmijikojaaGreatDoorW.PrintWords

theorem scan_on {hx : Bool} {c : Int} {r : List Int} {x y : RS} (h : step hx c x = some y) : scan hx (c :: r) x = scan hx r y := by
  simp only [scan, h]
theorem scan_off {hx : Bool} {c : Int} {r : List Int} {x : RS} (h : step hx c x = none) : scan hx (c :: r) x = (x, c :: r) := by
  simp only [scan, h]

/-- Where the digits are read up to k. -/
def ReadAt (hx : Bool) (s : ByteArray) (k0 k : Nat) (x : RS) (m tr i us dt dg nd nm dp : Value) : Prop :=
  k0 ≤ k ∧ k ≤ s.size ∧ RsOk hx (k - k0) x ∧ m = .int .u64 (x.m : Int) ∧ tr = .bool x.tr ∧ i = .int .i64 (k : Int) ∧ us = .bool x.us ∧ dt = .bool x.dot ∧ dg = .bool x.dig ∧
    nd = .int .i64 (x.nd : Int) ∧ nm = .int .i64 (x.nm : Int) ∧ dp = .int .i64 x.dp

theorem st_95 (hx : Bool) (x : RS) : step hx 95 x = some { x with us := true } := by unfold step; rw [if_pos rfl]
theorem st_46f (hx : Bool) (x : RS) (h : x.dot = false) : step hx 46 x = some { x with dot := true, dp := x.nd } := by
  unfold step; rw [if_neg (by decide), if_pos rfl, h]; rfl
theorem st_46t (hx : Bool) (x : RS) (h : x.dot = true) : step hx 46 x = none := by
  unfold step; rw [if_neg (by decide), if_pos rfl, h]; rfl
theorem st_z (hx : Bool) (x : RS) (h : x.nd = 0) : step hx 48 x = some { x with dig := true, dp := x.dp - 1 } := by
  unfold step; rw [if_neg (by decide), if_neg (by decide), if_pos (by decide), if_pos ⟨rfl, h⟩]
theorem st_d (hx : Bool) (x : RS) (d : Nat) (hd : d ≤ 9) (h0 : x.nd ≠ 0 ∨ d ≠ 0) (h : x.nm < most hx) : step hx ((d : Int) + 48) x = some { x with dig := true, nd := x.nd + 1, m := x.m * base hx + d, nm := x.nm + 1 } := by
  unfold step
  rw [if_neg (by omega), if_neg (by omega), if_pos (by omega), if_neg (by omega), if_pos h, show ((d : Int) + 48 - 48).toNat = d by omega]
theorem st_t (hx : Bool) (x : RS) (d : Nat) (hd : d ≤ 9) (h0 : x.nd ≠ 0 ∨ d ≠ 0) (h : ¬ x.nm < most hx) (t : Bool) (ht : t = if d = 0 then x.tr else true) : step hx ((d : Int) + 48) x = some { x with dig := true, nd := x.nd + 1, tr := t } := by
  unfold step
  rw [if_neg (by omega), if_neg (by omega), if_pos (by omega), if_neg (by omega), if_neg h, ht]
  by_cases e : d = 0
  · rw [if_pos (by omega), if_pos e]
  · rw [if_neg (by omega), if_neg e]
theorem st_d0 (hx : Bool) (x : RS) (h0 : x.nd ≠ 0) (h : x.nm < most hx) : step hx 48 x = some { x with dig := true, nd := x.nd + 1, m := x.m * base hx, nm := x.nm + 1 } := st_d hx x 0 (by omega) (.inl h0) h
theorem st_t0 (hx : Bool) (x : RS) (h0 : x.nd ≠ 0) (h : ¬ x.nm < most hx) : step hx 48 x = some { x with dig := true, nd := x.nd + 1 } := st_t hx x 0 (by omega) (.inl h0) h x.tr rfl
theorem wrap_mul {hx : Bool} {k : Nat} {x : RS} (h : RsOk hx k x) (hn : x.nm < most hx) (d : Nat) (hd : d < base hx) : IntKind.u64.wrap ((x.m : Int) * (base hx : Int)) = (x.m : Int) * (base hx : Int) ∧ IntKind.u64.wrap ((x.m : Int) * (base hx : Int) + (d : Int)) = (x.m : Int) * (base hx : Int) + (d : Int) := by
  have h1 := top_m h hn d hd
  have h2 : ((x.m * base hx : Nat) : Int) = (x.m : Int) * (base hx : Int) := rfl
  refine ⟨?_, ?_⟩
  · rw [← h2]
    exact wrap_u _ (by omega) (by omega)
  · rw [← h2]
    exact wrap_u _ (by omega) (by omega)
theorem st_h (x : RS) (c : Int) (h1 : c ≠ 95) (h2 : c ≠ 46) (h3 : ¬ (48 ≤ c ∧ c ≤ 57)) (d : Nat) (hd : d ≤ 5) (hc : lw c = (d : Int) + 97) (h : x.nm < most true) : step true c x = some { x with dig := true, nd := x.nd + 1, m := x.m * 16 + (d + 10), nm := x.nm + 1 } := by
  unfold step
  rw [if_neg h1, if_neg h2, if_neg h3, if_pos ⟨rfl, by omega, by omega⟩, if_pos h, hc, show ((d : Int) + 97 - 97 + 10).toNat = d + 10 by omega]
theorem st_ht (x : RS) (c : Int) (h1 : c ≠ 95) (h2 : c ≠ 46) (h3 : ¬ (48 ≤ c ∧ c ≤ 57)) (d : Nat) (hd : d ≤ 5) (hc : lw c = (d : Int) + 97) (h : ¬ x.nm < most true) : step true c x = some { x with dig := true, nd := x.nd + 1, tr := true } := by
  unfold step
  rw [if_neg h1, if_neg h2, if_neg h3, if_pos ⟨rfl, by omega, by omega⟩, if_neg h]
theorem st_no (hx : Bool) (x : RS) (c : Int) (h1 : c ≠ 95) (h2 : c ≠ 46) (h3 : ¬ (48 ≤ c ∧ c ≤ 57)) (h4 : ¬ (hx = true ∧ 97 ≤ lw c ∧ lw c ≤ 102)) : step hx c x = none := by
  unfold step
  rw [if_neg h1, if_neg h2, if_neg h3, if_neg h4]
theorem lo_one {k0 k : Nat} (h : k0 ≤ k) : k + 1 - k0 = k - k0 + 1 := by omega
theorem base16 (hx : Bool) : ((base hx : Int) == 16) = hx := by cases hx <;> rfl
theorem base_mul' (hx : Bool) (a : Nat) : ((a * base hx : Nat) : Int) = (a : Int) * (base hx : Int) := rfl
theorem base_mul (hx : Bool) (a d : Nat) : ((a * base hx + d : Nat) : Int) = (a : Int) * (base hx : Int) + (d : Int) := rfl

theorem rf_no {l : List Int} (h : reads l = none) (m : Nat) (tr : Bool) (i : Nat) (hx : Bool) (hhx : isHex (signed l).2 = hx) (hm : m < 18446744073709551616) (hi : i ≤ l.length) (w : World) :
    RfRes l w (.returned (.tuple #[.int .u64 (m : Int), .int .i64 0, .bool (signed l).1, .bool tr, .bool hx, .int .i64 (i : Int), .bool false])) w :=
  ⟨m, 0, tr, i, false, by rw [hhx], rfl, hm, by decide, by decide, hi, .inr ⟨rfl, .inl h⟩⟩
theorem rf_us {l rest : List Int} {m : Nat} {E : Int} {tr : Bool} (h : reads l = some (m, E, tr, true, rest)) (i : Nat) (hx : Bool) (hhx : isHex (signed l).2 = hx) (hm : m < 18446744073709551616) (h1 : -200000 ≤ E) (h2 : E ≤ 200000) (hi : i ≤ l.length) (w : World) :
    RfRes l w (.returned (.tuple #[.int .u64 (m : Int), .int .i64 E, .bool (signed l).1, .bool tr, .bool hx, .int .i64 (i : Int), .bool false])) w :=
  ⟨m, E, tr, i, false, by rw [hhx], rfl, hm, h1, h2, hi, .inr ⟨rfl, .inr ⟨m, E, tr, rest, h⟩⟩⟩
theorem rf_yes {l : List Int} {m : Nat} {E : Int} {tr us : Bool} {i : Nat} (h : reads l = some (m, E, tr, us, l.drop i)) (hx : Bool) (hhx : isHex (signed l).2 = hx) (hm : m < 18446744073709551616) (h1 : -200000 ≤ E) (h2 : E ≤ 200000) (hi : i ≤ l.length) (w : World) :
    RfRes l w (.returned (.tuple #[.int .u64 (m : Int), .int .i64 E, .bool (signed l).1, .bool tr, .bool hx, .int .i64 (i : Int), .bool true])) w :=
  ⟨m, E, tr, i, true, by rw [hhx], rfl, hm, h1, h2, hi, .inl ⟨rfl, us, l.drop i, h, by rw [List.length_drop]; omega⟩⟩
theorem behind_no {hx : Bool} {x : RS} {r : List Int} (h : x.dig = false) : behind hx (x, r) = none := by
  unfold behind
  simp only [h]
  rfl
theorem behind_ex {hx : Bool} {x : RS} {r : List Int} (h : x.dig = true) : behind hx (x, r) = (expo hx (dpx hx x) x.us r).map fun q => (x.m, if x.m = 0 then 0 else q.1 - nmx hx x, x.tr, q.2.1, q.2.2) := by
  unfold behind
  simp only [h]
  rfl
theorem expo_e {hx : Bool} {dp : Int} {us : Bool} {c : Int} {r : List Int} (h : lw c = xch hx) : expo hx dp us (c :: r) = edig dp us (esign r) := if_pos h
theorem expo_no {hx : Bool} {dp : Int} {us : Bool} {r : List Int} (h : ∀ c t, r = c :: t → lw c ≠ xch hx) : expo hx dp us r = if hx then none else some (dp, us, r) := by
  match r, h with
  | [], _ => rfl
  | c :: t, h => exact if_neg (h c t rfl)
theorem dpx_rng {hx : Bool} {k : Nat} {x : RS} (h : RsOk hx k x) (hk : k ≤ 60) : -240 ≤ dpx hx x ∧ dpx hx x ≤ 240 := by
  have h1 := h.nd
  have h2 := h.lo
  have h3 := h.hi
  unfold dpx
  cases hx <;> cases x.dot <;> simp only [if_true, Bool.false_eq_true, if_false] <;> omega
theorem nmx_rng {hx : Bool} {k : Nat} {x : RS} (h : RsOk hx k x) : 0 ≤ nmx hx x ∧ nmx hx x ≤ 64 := by
  have h1 := h.nm
  unfold nmx
  cases hx <;> simp only [if_true, Bool.false_eq_true, if_false] <;> simp only [most, if_true, Bool.false_eq_true, if_false] at h1 <;> omega

set_option maxRecDepth 30000 in
set_option maxHeartbeats 4000000 in
theorem read_1 (s : ByteArray) (h : 0 < s.size) (hs : s.size ≤ 60) (w : World) : Calls Tryz.prog 80 #[.string s] w (RfRes (bytes s) w) := by
  have hD := drops_of s
  generalize bytes s = l at *
  have HD := Aside0.mk hD
  clear hD
  obtain ⟨z, hz⟩ : ∃ z : Int, (s.size : Int) = z := ⟨_, rfl⟩
  have hz1 : 0 < z := by omega
  have hz2 : z ≤ 60 := by omega
  have HH := Aside0.mk h
  have HS := Aside0.mk hs
  have h2 := eq_true h
  clear h hs
  go_enter Tryz.func80, Tryz.ntmps80
  go_wp2
  go_step3
  go_upto_block 0 with fail
  go_cut [4, 7, 27] from 25 to 35 (fun n i _ wx => (∃ k : Nat, k ≤ 1 ∧ k ≤ s.size ∧ n = .bool (signed l).1 ∧ i = .int .i64 (k : Int) ∧ l.drop k = (signed l).2) ∧ w = wx)
  case first =>
    have hx := bn s 0
    have hl := HD.out.on 0 HH.out
    rw [List.drop_zero, show ((0 : Nat) : Int) = 0 from rfl] at hl
    rw [show ((0 : Nat) : Int) = 0 from rfl] at hx
    generalize bt s 0 = c at hx hl
    by_cases g1 : c = 43
    · subst g1
      have R := Aside0.mk (sg_p hl)
      clear hl
      go_wp2_with fail
      go_meet
      case rel => exact ⟨⟨1, by omega, HH.out, by rw [R.out], rfl, by rw [R.out]⟩, rfl⟩
    · by_cases g2 : c = 45
      · subst g2
        have R := Aside0.mk (sg_m hl)
        clear hl
        go_wp2_with fail
        go_meet
        case rel => exact ⟨⟨1, by omega, HH.out, by rw [R.out], rfl, by rw [R.out]⟩, rfl⟩
      · have R := Aside0.mk (sg_o hl g1 g2)
        have p1 : (c == 43) = false := beq_eq_false_iff_ne.2 g1
        have p2 : (c == 45) = false := beq_eq_false_iff_ne.2 g2
        clear hl g1 g2
        go_wp2_with fail
        go_meet
        case rel => exact ⟨⟨0, by omega, by omega, by rw [R.out], rfl, by rw [R.out]; rfl⟩, rfl⟩
  case rest =>
    obtain ⟨⟨k, hk, hks, rfl, rfl, hl2⟩, rfl⟩ := hcut
    have hh := hex_of HD.out k
    rw [hl2] at hh
    have HL2 := Aside0.mk hl2
    have HHX := Aside0.mk hh
    have HKS := Aside0.mk hks
    have HL := fun W c => lower_any c W
    clear hl2 hh hks h2
    go_upto_region 12 with fail
    go_cut [54] from 36 to 54 (fun c wx => c = .bool (isHex (signed l).2) ∧ w = wx)
    case first =>
      rcases (show k = 0 ∨ k = 1 by omega) with rfl | rfl
      · have hx0 := bn s 0
        have hx1 := bn s 1
        have e : (isHex (signed l).2) = (decide (2 < s.size) && (bt s 0 == 48 && lw (bt s 1) == 120)) := HHX.out
        clear HHX
        rw [show ((0 : Nat) : Int) = 0 from rfl] at hx0
        rw [show ((1 : Nat) : Int) = 1 from rfl] at hx1
        generalize bt s 0 = c at hx0 e
        generalize bt s 1 = d at hx1 e
        by_cases g : 2 < s.size
        · have q0 := eq_true (show 2 < z by omega)
          have q1 := eq_true (show 0 < s.size by omega)
          have q2 := eq_true (show 1 < s.size by omega)
          have q3 := eq_true (show 0 < z by omega)
          have q4 := eq_true (show 1 < z by omega)
          rw [decide_eq_true g, Bool.true_and] at e
          clear g
          cases p1 : (c == 48)
          · rw [p1, Bool.false_and] at e
            have E := Aside0.mk e
            clear e
            go_wp2_with fail
            go_meet
            case rel => exact ⟨by rw [E.out], rfl⟩
          · rw [p1, Bool.true_and] at e
            have E := Aside0.mk e
            clear e
            go_wp2_with (go_at_call 60; with_reducible refine (HL _ _).mono ?_; rintro e w2 ⟨rfl, rfl⟩)
            go_meet
            case rel => exact ⟨by rw [E.out], rfl⟩
        · have q0 := eq_false (show ¬ 2 < z by omega)
          rw [decide_eq_false g, Bool.false_and] at e
          clear g
          have E := Aside0.mk e
          clear e
          go_wp2_with fail
          go_meet
          case rel => exact ⟨by rw [E.out], rfl⟩
      · have hx0 := bn s 1
        have hx1 := bn s 2
        have e : (isHex (signed l).2) = (decide (3 < s.size) && (bt s 1 == 48 && lw (bt s 2) == 120)) := HHX.out
        clear HHX
        rw [show ((1 : Nat) : Int) = 1 from rfl] at hx0
        rw [show ((2 : Nat) : Int) = 2 from rfl] at hx1
        generalize bt s 1 = c at hx0 e
        generalize bt s 2 = d at hx1 e
        by_cases g : 3 < s.size
        · have q0 := eq_true (show 3 < z by omega)
          have q1 := eq_true (show 1 < s.size by omega)
          have q2 := eq_true (show 2 < s.size by omega)
          have q3 := eq_true (show 1 < z by omega)
          have q4 := eq_true (show 2 < z by omega)
          rw [decide_eq_true g, Bool.true_and] at e
          clear g
          cases p1 : (c == 48)
          · rw [p1, Bool.false_and] at e
            have E := Aside0.mk e
            clear e
            go_wp2_with fail
            go_meet
            case rel => exact ⟨by rw [E.out], rfl⟩
          · rw [p1, Bool.true_and] at e
            have E := Aside0.mk e
            clear e
            go_wp2_with (go_at_call 60; with_reducible refine (HL _ _).mono ?_; rintro e w2 ⟨rfl, rfl⟩)
            go_meet
            case rel => exact ⟨by rw [E.out], rfl⟩
        · have q0 := eq_false (show ¬ 3 < z by omega)
          rw [decide_eq_false g, Bool.false_and] at e
          clear g
          have E := Aside0.mk e
          clear e
          go_wp2_with fail
          go_meet
          case rel => exact ⟨by rw [E.out], rfl⟩
    case rest =>
      obtain ⟨rfl, rfl⟩ := hcut
      go_upto_if 54 with fail
      go_cut [6, 7, 10, 11, 12] from 54 to 56 (fun hx i bs mx xc wx => hexB (isHex (signed l).2) w wx s l i hx bs mx xc)
      case first =>
        cases hb : isHex (signed l).2
        · have HB := Aside0.mk hb
          have R : unhex (signed l).2 = (signed l).2 := by unfold unhex; rw [hb]; rfl
          have R' := Aside0.mk R
          clear hb R
          go_wp2_with fail
          go_meet
          case rel =>
            rw [HB.out]
            exact ⟨k, by omega, HKS.out, rfl, rfl, rfl, rfl, rfl, by rw [R'.out]; exact HL2.out, rfl⟩
        · have HB := Aside0.mk hb
          have R : unhex (signed l).2 = (signed l).2.drop 2 := by unfold unhex; rw [hb]; rfl
          have R' := Aside0.mk R
          have h3 : k + 2 < s.size := by
            have := HHX.out
            rw [hb] at this
            exact of_decide_eq_true (Bool.and_eq_true_iff.1 this.symm).1
          have H3 := Aside0.mk h3
          clear hb R h3
          go_wp2_with fail
          go_meet
          case rel =>
            rw [HB.out]
            exact ⟨k + 2, by omega, by have := H3.out; omega, rfl, rfl, rfl, rfl, rfl, by rw [R'.out, ← HL2.out, List.drop_drop], rfl⟩
      case rest =>
        obtain ⟨k0, hk03, hk0s, rfl, rfl, rfl, rfl, rfl, hl0, rfl⟩ := hcut
        have HR := Aside0.mk (show reads l = behind (isHex (signed l).2) (scan (isHex (signed l).2) (l.drop k0) rs0) by rw [hl0]; rfl)
        have HK0 := Aside0.mk hk0s
        clear hl0 hk0s HKS HHX HL2 hk
        have hB16 := base16 (isHex (signed l).2)
        obtain ⟨hx, hhx⟩ : ∃ hx, isHex (signed l).2 = hx := ⟨_, rfl⟩
        rw [hhx] at hB16 HR ⊢
        obtain ⟨B, hB⟩ : ∃ B : Int, (base hx : Int) = B := ⟨_, rfl⟩
        obtain ⟨M, hM⟩ : ∃ M : Int, (most hx : Int) = M := ⟨_, rfl⟩
        obtain ⟨X, hX⟩ : ∃ X : Int, xch hx = X := ⟨_, rfl⟩
        rw [hB, hM, hX]
        rw [hB] at hB16
        have HB := Aside0.mk hB
        have HM := Aside0.mk hM
        have HX := Aside0.mk hX
        have HHX := Aside0.mk hhx
        clear hB hM hX hhx
        go_wp2
        go_step3
        go_upto_block 1 with fail
        go_cut [2, 5, 7, 9, 13, 14, 15, 16, 17] from 57 to 138 (fun m tr i us dt dg nd nm dp wx => ∃ (x : RS) (k : Nat), ReadAt hx s k0 k x m tr i us dt dg nd nm dp ∧ scan hx (l.drop k0) rs0 = (x, l.drop k) ∧ w = wx)
        case first =>
          go_wp2_with fail
          go_loopw [2, 5, 7, 9, 13, 14, 15, 16, 17] (fun m tr i us dt dg nd nm dp wr => ∃ (x : RS) (k : Nat), ReadAt hx s k0 k x m tr i us dt dg nd nm dp ∧ Aside0 (scan hx (l.drop k) x = scan hx (l.drop k0) rs0) ∧ w = wr) (fun _ _ i _ _ _ _ _ _ _ => s.size - (RowKit.intOf i).toNat)
          case atStart => exact ⟨rs0, k0, ⟨Nat.le_refl _, HK0.out, by rw [Nat.sub_self]; exact rsok0 hx, rfl, rfl, rfl, rfl, rfl, rfl, rfl, rfl, rfl⟩, ⟨rfl⟩, rfl⟩
          case round =>
            obtain ⟨x, k, ⟨hk0, hks, hok, rfl, rfl, rfl, rfl, rfl, rfl, rfl, rfl, rfl⟩, HSC, rfl⟩ := hrel
            have HK0' := Aside0.mk hk0
            have HKS := Aside0.mk hks
            have HOK := Aside0.mk hok
            rcases Nat.lt_or_ge k s.size with h | h
            · have q1 := eq_true (show (k : Int) < z by omega)
              have q2 := eq_true h
              have hx1 := bn s k
              have hdr := HD.out.on k h
              have ms : s.size - ((k : Int) + 1).toNat < s.size - (k : Int).toNat := by omega
              have MS := Aside0.mk ms
              have HKN := Aside0.mk (show k + 1 ≤ s.size by omega)
              have hr := bt_range s k
              generalize bt s (k : Int) = c at hx1 hdr hr
              have HDR := Aside0.mk hdr
              have hnd : x.nd ≤ 60 := by have := hok.nd; have := HS.out; omega
              have hlo : -60 ≤ x.dp := by have := hok.lo; have := HS.out; omega
              have hhi : x.dp ≤ 60 := by have := hok.hi; have := HS.out; omega
              have hnm : x.nm ≤ 60 := by have := hok.le; omega
              have hk60 : (k : Int) < 60 := by have := HS.out; omega
              clear ms h hk0 hks hdr hok
              by_cases c1 : c = 95
              · subst c1
                have HST := Aside0.mk (st_95 hx x)
                go_wp2_with (go_at_call 60; with_reducible refine (HL _ _).mono ?_; rintro e w2 ⟨rfl, rfl⟩)
                go_roundw
                case measure => exact MS.out
                case rel => exact ⟨{ x with us := true }, k + 1, ⟨by have := HK0'.out; omega, HKN.out, by rw [lo_one HK0'.out]; exact rsok_step HOK.out HST.out, rfl, rfl, rfl, rfl, rfl, rfl, rfl, rfl, rfl⟩, ⟨by rw [← HSC.out, HDR.out, scan_on HST.out]⟩, trivial⟩
              · have p1 : (c == 95) = false := beq_eq_false_iff_ne.2 c1
                by_cases c2 : c = 46
                · subst c2
                  cases hdot : x.dot
                  · have HST := Aside0.mk (st_46f hx x hdot)
                    go_wp2_with (go_at_call 60; with_reducible refine (HL _ _).mono ?_; rintro e w2 ⟨rfl, rfl⟩)
                    go_roundw
                    case measure => exact MS.out
                    case rel => exact ⟨{ x with dot := true, dp := x.nd }, k + 1, ⟨by have := HK0'.out; omega, HKN.out, by rw [lo_one HK0'.out]; exact rsok_step HOK.out HST.out, rfl, rfl, rfl, rfl, rfl, rfl, rfl, rfl, rfl⟩, ⟨by rw [← HSC.out, HDR.out, scan_on HST.out]⟩, trivial⟩
                  · have HST := Aside0.mk (st_46t hx x hdot)
                    go_wp2_with (go_at_call 60; with_reducible refine (HL _ _).mono ?_; rintro e w2 ⟨rfl, rfl⟩)
                    go_meet
                    case rel => exact ⟨x, k, ⟨HK0'.out, HKS.out, HOK.out, rfl, rfl, rfl, rfl, by rw [hdot], rfl, rfl, rfl, rfl⟩, by rw [← HSC.out, HDR.out, scan_off HST.out], rfl⟩
                · have p2 : (c == 46) = false := beq_eq_false_iff_ne.2 c2
                  by_cases c3 : 48 ≤ c ∧ c ≤ 57
                  · by_cases c5 : c = 48
                    · subst c5
                      by_cases c4 : x.nd = 0
                      · have HST := Aside0.mk (st_z hx x c4)
                        have p5 : ((x.nd : Int) == 0) = true := beq_iff_eq.2 (by omega)
                        clear c4
                        go_wp2_with (go_at_call 60; with_reducible refine (HL _ _).mono ?_; rintro e w2 ⟨rfl, rfl⟩)
                        go_roundw
                        case measure => exact MS.out
                        case rel => exact ⟨{ x with dig := true, dp := x.dp - 1 }, k + 1, ⟨by have := HK0'.out; omega, HKN.out, by rw [lo_one HK0'.out]; exact rsok_step HOK.out HST.out, rfl, rfl, rfl, rfl, rfl, rfl, rfl, rfl, rfl⟩, ⟨by rw [← HSC.out, HDR.out, scan_on HST.out]⟩, trivial⟩
                      · have p5 : ((x.nd : Int) == 0) = false := beq_eq_false_iff_ne.2 (by omega)
                        by_cases c6 : x.nm < most hx
                        · have HST := Aside0.mk (st_d0 hx x c4 c6)
                          have q6 := eq_true (show (x.nm : Int) < M by have := HM.out; omega)
                          obtain ⟨hw1, hw2⟩ := wrap_mul HOK.out c6 0 (by have := HB.out; unfold base; split <;> omega)
                          rw [HB.out] at hw1 hw2
                          clear c4 c6
                          go_wp2_with (go_at_call 60; with_reducible refine (HL _ _).mono ?_; rintro e w2 ⟨rfl, rfl⟩)
                          go_roundw
                          case measure => exact MS.out
                          case rel => exact ⟨{ x with dig := true, nd := x.nd + 1, m := x.m * base hx, nm := x.nm + 1 }, k + 1, ⟨by have := HK0'.out; omega, HKN.out, by rw [lo_one HK0'.out]; exact rsok_step HOK.out HST.out, by rw [base_mul', HB.out], rfl, rfl, rfl, rfl, rfl, rfl, rfl, rfl⟩, ⟨by rw [← HSC.out, HDR.out, scan_on HST.out]⟩, trivial⟩
                        · have HST := Aside0.mk (st_t0 hx x c4 c6)
                          have q6 := eq_false (show ¬ (x.nm : Int) < M by have := HM.out; omega)
                          clear c4 c6
                          go_wp2_with (go_at_call 60; with_reducible refine (HL _ _).mono ?_; rintro e w2 ⟨rfl, rfl⟩)
                          go_roundw
                          case measure => exact MS.out
                          case rel => exact ⟨{ x with dig := true, nd := x.nd + 1 }, k + 1, ⟨by have := HK0'.out; omega, HKN.out, by rw [lo_one HK0'.out]; exact rsok_step HOK.out HST.out, rfl, rfl, rfl, rfl, rfl, rfl, rfl, rfl, rfl⟩, ⟨by rw [← HSC.out, HDR.out, scan_on HST.out]⟩, trivial⟩
                    · obtain ⟨d, rfl⟩ : ∃ d : Nat, c = (d : Int) + 48 := ⟨(c - 48).toNat, by omega⟩
                      have hd : d ≤ 9 := by omega
                      have hd0 : d ≠ 0 := by omega
                      have p3 := eq_true (show (48 : Int) ≤ (d : Int) + 48 by omega)
                      have p4 := eq_true (show (d : Int) + 48 ≤ 57 by omega)
                      have p5 : ((d : Int) + 48 == 48) = false := beq_eq_false_iff_ne.2 (by omega)
                      have p6 : ((d : Int) + 48 != 48) = true := bne_iff_ne.2 (by omega)
                      by_cases c6 : x.nm < most hx
                      · have HST := Aside0.mk (st_d hx x d hd (.inr hd0) c6)
                        have q6 := eq_true (show (x.nm : Int) < M by have := HM.out; omega)
                        obtain ⟨hw1, hw2⟩ := wrap_mul HOK.out c6 d (by unfold base; split <;> omega)
                        rw [HB.out] at hw1 hw2
                        clear c6 c1 c2 c3 c5 hd0
                        go_wp2_with (go_at_call 60; with_reducible refine (HL _ _).mono ?_; rintro e w2 ⟨rfl, rfl⟩)
                        go_roundw
                        case measure => exact MS.out
                        case rel => exact ⟨{ x with dig := true, nd := x.nd + 1, m := x.m * base hx + d, nm := x.nm + 1 }, k + 1, ⟨by have := HK0'.out; omega, HKN.out, by rw [lo_one HK0'.out]; exact rsok_step HOK.out HST.out, by rw [base_mul, HB.out], rfl, rfl, rfl, rfl, rfl, rfl, rfl, rfl⟩, ⟨by rw [← HSC.out, HDR.out, scan_on HST.out]⟩, trivial⟩
                      · have HST := Aside0.mk (st_t hx x d hd (.inr hd0) c6 true (by rw [if_neg hd0]))
                        have q6 := eq_false (show ¬ (x.nm : Int) < M by have := HM.out; omega)
                        clear c6 c1 c2 c3 c5 hd0
                        go_wp2_with (go_at_call 60; with_reducible refine (HL _ _).mono ?_; rintro e w2 ⟨rfl, rfl⟩)
                        go_roundw
                        case measure => exact MS.out
                        case rel => exact ⟨{ x with dig := true, nd := x.nd + 1, tr := true }, k + 1, ⟨by have := HK0'.out; omega, HKN.out, by rw [lo_one HK0'.out]; exact rsok_step HOK.out HST.out, rfl, rfl, rfl, rfl, rfl, rfl, rfl, rfl, rfl⟩, ⟨by rw [← HSC.out, HDR.out, scan_on HST.out]⟩, trivial⟩
                  · have C1 := Aside0.mk c1
                    have C2 := Aside0.mk c2
                    have C3 := Aside0.mk c3
                    go_upto_region 32 with fail
                    go_cut [76] from 77 to 83 (fun b wx => b = .bool false ∧ w = wx)
                    case first =>
                      rcases (show ¬ 48 ≤ c ∨ (48 ≤ c ∧ ¬ c ≤ 57) by omega) with g | ⟨g1, g2⟩
                      · have p3 := eq_false g
                        clear g c3
                        go_wp2_with fail
                        go_meet
                        case rel => exact ⟨rfl, rfl⟩
                      · have p3 := eq_true g1
                        have p4 := eq_false g2
                        clear g1 g2 c3
                        go_wp2_with fail
                        go_meet
                        case rel => exact ⟨rfl, rfl⟩
                    case rest =>
                      obtain ⟨rfl, rfl⟩ := hcut
                      clear c1 c2 c3
                      cases hx
                      · have HST := Aside0.mk (st_no false x c C1.out C2.out C3.out (by simp))
                        go_wp2_with (go_at_call 60; with_reducible refine (HL _ _).mono ?_; rintro e w2 ⟨rfl, rfl⟩)
                        go_meet
                        case rel => exact ⟨x, k, ⟨HK0'.out, HKS.out, HOK.out, rfl, rfl, rfl, rfl, rfl, rfl, rfl, rfl, rfl⟩, by rw [← HSC.out, HDR.out, scan_off HST.out], rfl⟩
                      · by_cases g1 : 97 ≤ lw c
                        · have p7 := eq_true g1
                          by_cases g2 : lw c ≤ 102
                          · have p8 := eq_true g2
                            obtain ⟨d, hd⟩ : ∃ d : Nat, lw c = (d : Int) + 97 := ⟨(lw c - 97).toNat, by omega⟩
                            have hd5 : d ≤ 5 := by omega
                            rw [hd] at p7 p8
                            have p9 : IntKind.u8.wrap ((d : Int) + 97) = (d : Int) + 97 := by rw [IntKind.wrap_u8]; omega
                            by_cases c6 : x.nm < most true
                            · have HST := Aside0.mk (st_h x c C1.out C2.out C3.out d hd5 hd c6)
                              have q6 := eq_true (show (x.nm : Int) < M by have := HM.out; omega)
                              obtain ⟨hw1, hw2⟩ := wrap_mul HOK.out c6 (d + 10) (show d + 10 < 16 by omega)
                              have hB' : (base true : Int) = 16 := rfl
                              rw [hB'] at hw1 hw2
                              have hw3 : IntKind.u64.wrap ((x.m : Int) * 16 + ((d : Int) + 10)) = (x.m : Int) * 16 + ((d : Int) + 10) := hw2
                              have hm0 : (x.m : Int) * 16 + ((d : Int) + 10) < 18446744073709551616 := by have := top_m HOK.out c6 (d + 10) (show d + 10 < 16 by omega); have e : base true = 16 := rfl; rw [e] at this; omega
                              clear c6 g1 g2 hw2
                              go_wp2_with (go_at_call 60; with_reducible refine (HL _ _).mono ?_; rintro e w2 ⟨rfl, rfl⟩)
                              go_roundw
                              case measure => exact MS.out
                              case rel => exact ⟨{ x with dig := true, nd := x.nd + 1, m := x.m * 16 + (d + 10), nm := x.nm + 1 }, k + 1, ⟨by have := HK0'.out; omega, HKN.out, by rw [lo_one HK0'.out]; exact rsok_step HOK.out HST.out, rfl, rfl, rfl, rfl, rfl, rfl, rfl, rfl, rfl⟩, ⟨by rw [← HSC.out, HDR.out, scan_on HST.out]⟩, trivial⟩
                            · have HST := Aside0.mk (st_ht x c C1.out C2.out C3.out d hd5 hd c6)
                              have q6 := eq_false (show ¬ (x.nm : Int) < M by have := HM.out; omega)
                              clear c6 g1 g2
                              go_wp2_with (go_at_call 60; with_reducible refine (HL _ _).mono ?_; rintro e w2 ⟨rfl, rfl⟩)
                              go_roundw
                              case measure => exact MS.out
                              case rel => exact ⟨{ x with dig := true, nd := x.nd + 1, tr := true }, k + 1, ⟨by have := HK0'.out; omega, HKN.out, by rw [lo_one HK0'.out]; exact rsok_step HOK.out HST.out, rfl, rfl, rfl, rfl, rfl, rfl, rfl, rfl, rfl⟩, ⟨by rw [← HSC.out, HDR.out, scan_on HST.out]⟩, trivial⟩
                          · have p8 := eq_false g2
                            have HST := Aside0.mk (st_no true x c C1.out C2.out C3.out (fun h => g2 h.2.2))
                            clear g1 g2
                            go_wp2_with (go_at_call 60; with_reducible refine (HL _ _).mono ?_; rintro e w2 ⟨rfl, rfl⟩)
                            go_meet
                            case rel => exact ⟨x, k, ⟨HK0'.out, HKS.out, HOK.out, rfl, rfl, rfl, rfl, rfl, rfl, rfl, rfl, rfl⟩, by rw [← HSC.out, HDR.out, scan_off HST.out], rfl⟩
                        · have p7 := eq_false g1
                          have HST := Aside0.mk (st_no true x c C1.out C2.out C3.out (fun h => g1 h.2.1))
                          clear g1
                          go_wp2_with (go_at_call 60; with_reducible refine (HL _ _).mono ?_; rintro e w2 ⟨rfl, rfl⟩)
                          go_meet
                          case rel => exact ⟨x, k, ⟨HK0'.out, HKS.out, HOK.out, rfl, rfl, rfl, rfl, rfl, rfl, rfl, rfl, rfl⟩, by rw [← HSC.out, HDR.out, scan_off HST.out], rfl⟩
            · have q1 := eq_false (show ¬ (k : Int) < z by omega)
              have e : k = s.size := Nat.le_antisymm hks h
              have E : scan hx (l.drop k0) rs0 = (x, l.drop k) := by
                rw [← HSC.out, e, HD.out.off]
                rfl
              have E' := Aside0.mk E
              clear E h e hk0 hks hok
              go_wp2_with fail
              go_meet
              case rel => exact ⟨x, k, ⟨HK0'.out, HKS.out, HOK.out, rfl, rfl, rfl, rfl, rfl, rfl, rfl, rfl, rfl⟩, E'.out, rfl⟩
        case rest =>
          obtain ⟨x, k, ⟨hk0, hks, hok, rfl, rfl, rfl, rfl, rfl, rfl, rfl, rfl, rfl⟩, hsc, rfl⟩ := hcut
          have hrd := HR.out
          rw [hsc] at hrd
          have HM64 := Aside0.mk (top_all hok)
          have HKS := Aside0.mk hks
          have HKL := Aside0.mk (show k ≤ l.length by rw [HD.out.len]; exact hks)
          have HDR := Aside0.mk (dpx_rng hok (by have := HS.out; omega))
          have HNR := Aside0.mk (nmx_rng hok)
          have hnd : x.nd ≤ 60 := by have := hok.nd; have := HS.out; omega
          have hlo : -60 ≤ x.dp := by have := hok.lo; have := HS.out; omega
          have hhi : x.dp ≤ 60 := by have := hok.hi; have := HS.out; omega
          have hnm : x.nm ≤ 60 := by have := hok.le; omega
          have hk60 : (k : Int) ≤ 60 := by have := HS.out; omega
          clear HR hsc hk0 hks hok hk03 HK0
          cases hdig : x.dig
          · have HNO := Aside0.mk (hrd.trans (behind_no hdig))
            clear hrd
            go_wp2
            rw [Exit.noGoto_ret]
            go_returns
            exact rf_no HNO.out x.m x.tr k hx HHX.out HM64.out HKL.out w
          · have HRD := Aside0.mk (hrd.trans (behind_ex hdig))
            clear hrd
            obtain ⟨D1, hD1⟩ : ∃ D1 : Int, (if x.dot then x.dp else (x.nd : Int)) = D1 := ⟨_, rfl⟩
            have hD1a : -60 ≤ D1 := by rw [← hD1]; split <;> omega
            have hD1b : D1 ≤ 60 := by rw [← hD1]; split <;> omega
            have HD1 := Aside0.mk hD1
            clear hD1
            go_upto_if 142 with fail
            go_cut [13, 17] from 141 to 143 (fun _ dp wx => dp = .int .i64 D1 ∧ w = wx)
            case first =>
              cases hdot : x.dot
              · have E : D1 = (x.nd : Int) := by rw [← HD1.out, hdot]; rfl
                have E' := Aside0.mk E
                clear E
                go_wp2_with fail
                go_meet
                case rel => exact ⟨by rw [E'.out], rfl⟩
              · have E : D1 = x.dp := by rw [← HD1.out, hdot]; rfl
                have E' := Aside0.mk E
                clear E
                go_wp2_with fail
                go_meet
                case rel => exact ⟨by rw [E'.out], rfl⟩
            case rest =>
              obtain ⟨rfl, rfl⟩ := hcut
              obtain ⟨D2, hD2⟩ : ∃ D2 : Int, dpx hx x = D2 := ⟨_, rfl⟩
              obtain ⟨NM, hNM⟩ : ∃ NM : Int, nmx hx x = NM := ⟨_, rfl⟩
              have HD2 := Aside0.mk (show D2 = if hx then D1 * 4 else D1 by rw [← hD2, ← HD1.out]; rfl)
              have HNM := Aside0.mk (show NM = if hx then (x.nm : Int) * 4 else (x.nm : Int) by rw [← hNM]; rfl)
              have hD2a : -240 ≤ D2 := by rw [← hD2]; exact HDR.out.1
              have hD2b : D2 ≤ 240 := by rw [← hD2]; exact HDR.out.2
              have hNMa : 0 ≤ NM := by rw [← hNM]; exact HNR.out.1
              have hNMb : NM ≤ 64 := by rw [← hNM]; exact HNR.out.2
              have HRD2 := Aside0.mk (show reads l = (expo hx D2 x.us (l.drop k)).map fun q => (x.m, if x.m = 0 then 0 else q.1 - NM, x.tr, q.2.1, q.2.2) by rw [← hD2, ← hNM]; exact HRD.out)
              clear hD2 hNM HRD HDR HNR HD1
              go_upto_if 145 with fail
              go_cut [16, 17] from 144 to 149 (fun nm dp wx => nm = .int .i64 NM ∧ dp = .int .i64 D2 ∧ w = wx)
              case first =>
                cases hx
                · go_wp2_with fail
                  go_meet
                  case rel => exact ⟨by rw [HNM.out]; rfl, by rw [HD2.out]; rfl, rfl⟩
                · go_wp2_with fail
                  go_meet
                  case rel => exact ⟨by rw [HNM.out]; rfl, by rw [HD2.out]; rfl, rfl⟩
              case rest =>
                obtain ⟨rfl, rfl, rfl⟩ := hcut
                clear HD2 HNM hD1a hD1b hnd hlo hhi hnm
                have hB16' := hB16
                obtain ⟨bX, hbX⟩ : ∃ bX : Bool, (decide (k < s.size) && (lw (bt s (k : Int)) == X)) = bX := ⟨_, rfl⟩
                have HBX := Aside0.mk hbX
                clear hbX
                go_upto_region 57 with fail
                go_cut [161] from 150 to 161 (fun b wx => b = .bool bX ∧ w = wx)
                case first =>
                  rcases Nat.lt_or_ge k s.size with h | h
                  · have q1 := eq_true (show (k : Int) < z by omega)
                    have q2 := eq_true h
                    have hx1 := bn s k
                    have E := HBX.out
                    rw [decide_eq_true h, Bool.true_and] at E
                    generalize bt s (k : Int) = c at hx1 E
                    have E' := Aside0.mk E
                    clear E h
                    go_wp2_with (go_at_call 60; with_reducible refine (HL _ _).mono ?_; rintro e w2 ⟨rfl, rfl⟩)
                    go_meet
                    case rel => exact ⟨by rw [← E'.out], rfl⟩
                  · have q1 := eq_false (show ¬ (k : Int) < z by omega)
                    have E := HBX.out
                    rw [decide_eq_false (by omega), Bool.false_and] at E
                    have E' := Aside0.mk E
                    clear E h
                    go_wp2_with fail
                    go_meet
                    case rel => exact ⟨by rw [← E'.out], rfl⟩
                case rest =>
                  obtain ⟨rfl, rfl⟩ := hcut
                  go_upto_if 161 with fail
                  go_cut [7, 9, 17, 19, 20] from 162 to 239 (fun i us dp _ _ wx => ∃ (k3 : Nat) (u : Bool) (D : Int), i = .int .i64 (k3 : Int) ∧ us = .bool u ∧ dp = .int .i64 D ∧ k3 ≤ s.size ∧ -150000 ≤ D ∧ D ≤ 150000 ∧ expo hx D2 x.us (l.drop k) = some (D, u, l.drop k3) ∧ w = wx)
                  case first =>
                    cases bX
                    · have EX := expo_no (hx := hx) (dp := D2) (us := x.us) (r := l.drop k) (fun c t hc => by
                        intro hlw
                        rcases Nat.lt_or_ge k s.size with h | h
                        · have e1 := HD.out.on k h
                          rw [hc] at e1
                          injection e1 with e2 e3
                          have e4 := HBX.out
                          rw [decide_eq_true h, Bool.true_and, ← e2, hlw, HX.out] at e4
                          simp at e4
                        · rw [show k = s.size from Nat.le_antisymm HKS.out h, HD.out.off] at hc
                          cases hc)
                      cases hx
                      · have EX' := Aside0.mk (show expo false D2 x.us (l.drop k) = some (D2, x.us, l.drop k) from EX)
                        clear EX
                        go_wp2_with fail
                        go_meet
                        case rel => exact ⟨k, x.us, D2, rfl, rfl, rfl, HKS.out, by omega, by omega, EX'.out, rfl⟩
                      · have EX' := Aside0.mk (show expo true D2 x.us (l.drop k) = none from EX)
                        clear EX
                        have HNO : Aside0 (reads l = none) := ⟨by rw [HRD2.out, EX'.out]; rfl⟩
                        go_wp2_with fail
                        rw [Exit.noGoto_ret]
                        go_returns
                        exact rf_no HNO.out x.m x.tr k true HHX.out HM64.out HKL.out w
                    · have hkk : k < s.size := of_decide_eq_true (Bool.and_eq_true_iff.1 HBX.out).1
                      have hlw : lw (bt s (k : Int)) = xch hx := by rw [HX.out]; exact beq_iff_eq.1 (Bool.and_eq_true_iff.1 HBX.out).2
                      have EX : expo hx D2 x.us (l.drop k) = edig D2 x.us (esign (l.drop (k + 1))) := by rw [HD.out.on k hkk]; exact expo_e hlw
                      obtain ⟨k1, hk1⟩ : ∃ k1 : Nat, k + 1 = k1 := ⟨_, rfl⟩
                      rw [hk1] at EX
                      have EX' := Aside0.mk EX
                      have hk1s : k1 ≤ s.size := by omega
                      have e1 : (k : Int) + 1 = (k1 : Int) := by omega
                      have HK1 := Aside0.mk hk1s
                      have HK1L := Aside0.mk (show k1 ≤ l.length by rw [HD.out.len]; exact hk1s)
                      have hk160 : (k1 : Int) ≤ 60 := by have := HS.out; omega
                      clear EX hlw hk1 hkk
                      rcases Nat.lt_or_ge k1 s.size with h | h
                      · have q1 := eq_false (show ¬ z ≤ (k1 : Int) by omega)
                        have q1' := eq_true (show (k1 : Int) < z by omega)
                        have q2 := eq_true h
                        have hx1 := bn s k1
                        have hdr := HD.out.on k1 h
                        generalize bt s (k1 : Int) = c at hx1 hdr
                        have HDR := Aside0.mk hdr
                        have HK11 := Aside0.mk (show k1 + 1 ≤ s.size by omega)
                        clear hdr h hk1s
                        go_upto_block 4 with fail
                        go_cut [7, 19] from 168 to 178 (fun i sg wx => ∃ (k2 : Nat) (g : Int), i = .int .i64 (k2 : Int) ∧ sg = .int .i64 g ∧ (g = 1 ∨ g = -1) ∧ k2 ≤ s.size ∧ esign (l.drop k1) = (g, l.drop k2) ∧ w = wx)
                        case first =>
                          by_cases g1 : c = 43
                          · subst g1
                            have R : Aside0 (esign (l.drop k1) = (1, l.drop (k1 + 1))) := ⟨by rw [HDR.out]; rfl⟩
                            go_wp2_with fail
                            go_meet
                            case rel => exact ⟨k1 + 1, 1, rfl, rfl, .inl rfl, HK11.out, R.out, rfl⟩
                          · by_cases g2 : c = 45
                            · subst g2
                              have R : Aside0 (esign (l.drop k1) = (-1, l.drop (k1 + 1))) := ⟨by rw [HDR.out]; rfl⟩
                              go_wp2_with fail
                              go_meet
                              case rel => exact ⟨k1 + 1, -1, rfl, rfl, .inr rfl, HK11.out, R.out, rfl⟩
                            · have R : Aside0 (esign (l.drop k1) = (1, l.drop k1)) := ⟨by rw [HDR.out]; show (if c = 43 then _ else _) = _; rw [if_neg g1, if_neg g2]⟩
                              have p1 : (c == 43) = false := beq_eq_false_iff_ne.2 g1
                              have p2 : (c == 45) = false := beq_eq_false_iff_ne.2 g2
                              clear g1 g2
                              go_wp2_with fail
                              go_meet
                              case rel => exact ⟨k1, 1, rfl, rfl, .inl rfl, HK1.out, R.out, rfl⟩
                        case rest =>
                          obtain ⟨k2, g, rfl, rfl, hg, hk2, hes, rfl⟩ := hcut
                          have HG := Aside0.mk hg
                          have HK2 := Aside0.mk hk2
                          have HK2L := Aside0.mk (show k2 ≤ l.length by rw [HD.out.len]; exact hk2)
                          have HED := Aside0.mk (show expo hx D2 x.us (l.drop k) = edig D2 x.us (g, l.drop k2) by rw [EX'.out, hes])
                          have hk260 : (k2 : Int) ≤ 60 := by have := HS.out; omega
                          clear hg hk2 hes q1 q1' q2 hx1 HDR HK11 EX' HK1 HK1L e1 hk160
                          obtain ⟨bG, hbG⟩ : ∃ bG : Bool, (decide (k2 < s.size) && (decide (48 ≤ bt s (k2 : Int)) && decide (bt s (k2 : Int) ≤ 57))) = bG := ⟨_, rfl⟩
                          have HBG := Aside0.mk hbG
                          clear hbG
                          go_upto_region 67 with fail
                          go_cut [194] from 179 to 194 (fun b wx => b = .bool (!bG) ∧ w = wx)
                          case first =>
                            rcases Nat.lt_or_ge k2 s.size with h | h
                            · have q1 := eq_false (show ¬ z ≤ (k2 : Int) by omega)
                              have q1' := eq_true (show (k2 : Int) < z by omega)
                              have q2 := eq_true h
                              have hx1 := bn s k2
                              have E := HBG.out
                              rw [decide_eq_true h, Bool.true_and] at E
                              generalize bt s (k2 : Int) = c at hx1 E
                              clear h
                              by_cases g1 : 48 ≤ c
                              · by_cases g2 : c ≤ 57
                                · rw [decide_eq_true g1, decide_eq_true g2] at E
                                  have E' := Aside0.mk E
                                  have p1 := eq_false (show ¬ c < 48 by omega)
                                  have p2 := eq_false (show ¬ c > 57 by omega)
                                  have p2' := eq_false (show ¬ 57 < c by omega)
                                  clear E
                                  go_wp2_with fail
                                  go_meet
                                  case rel => exact ⟨by rw [← E'.out]; rfl, rfl⟩
                                · rw [decide_eq_true g1, decide_eq_false g2] at E
                                  have E' := Aside0.mk E
                                  have p1 := eq_false (show ¬ c < 48 by omega)
                                  have p2 := eq_true (show c > 57 by omega)
                                  have p2' := eq_true (show 57 < c by omega)
                                  clear E
                                  go_wp2_with fail
                                  go_meet
                                  case rel => exact ⟨by rw [← E'.out]; rfl, rfl⟩
                              · rw [decide_eq_false g1, Bool.false_and] at E
                                have E' := Aside0.mk E
                                have p1 := eq_true (show c < 48 by omega)
                                clear E
                                go_wp2_with fail
                                go_meet
                                case rel => exact ⟨by rw [← E'.out]; rfl, rfl⟩
                            · have q1 := eq_true (show z ≤ (k2 : Int) by omega)
                              have E := HBG.out
                              rw [decide_eq_false (by omega), Bool.false_and] at E
                              have E' := Aside0.mk E
                              clear E h
                              go_wp2_with fail
                              go_meet
                              case rel => exact ⟨by rw [← E'.out]; rfl, rfl⟩
                          case rest =>
                            obtain ⟨rfl, rfl⟩ := hcut
                            cases bG
                            · have HNO : Aside0 (reads l = none) := ⟨by
                                rw [HRD2.out, HED.out]
                                have : edig D2 x.us (g, l.drop k2) = none := by
                                  rcases Nat.lt_or_ge k2 s.size with h | h
                                  · have E := HBG.out
                                    rw [decide_eq_true h, Bool.true_and] at E
                                    rw [HD.out.on k2 h]
                                    refine if_neg (fun hd => ?_)
                                    rw [decide_eq_true hd.1, decide_eq_true hd.2] at E
                                    cases E
                                  · rw [show k2 = s.size from Nat.le_antisymm HK2.out h, HD.out.off]
                                    rfl
                                rw [this]
                                rfl⟩
                              go_wp2_with fail
                              rw [Exit.noGoto_ret]
                              go_returns
                              exact rf_no HNO.out x.m x.tr k2 hx HHX.out HM64.out HK2L.out w
                            · have HED2 := Aside0.mk (show edig D2 x.us (g, l.drop k2) = some (D2 + (scanE (l.drop k2) 0 x.us).1 * g, (scanE (l.drop k2) 0 x.us).2.1, (scanE (l.drop k2) 0 x.us).2.2) by
                                have E := HBG.out
                                have h : k2 < s.size := of_decide_eq_true (Bool.and_eq_true_iff.1 E).1
                                have h1 := of_decide_eq_true (Bool.and_eq_true_iff.1 (Bool.and_eq_true_iff.1 E).2).1
                                have h2 := of_decide_eq_true (Bool.and_eq_true_iff.1 (Bool.and_eq_true_iff.1 E).2).2
                                have e := HD.out.on k2 h
                                unfold edig
                                simp only [e]
                                rw [if_pos ⟨h1, h2⟩])
                              clear HBG
                              go_upto_block 5 with fail
                              go_cut [7, 9, 20] from 195 to 232 (fun i us e wx => ∃ (kk : Nat) (u : Bool) (ee : Int), i = .int .i64 (kk : Int) ∧ us = .bool u ∧ e = .int .i64 ee ∧ kk ≤ s.size ∧ 0 ≤ ee ∧ ee ≤ 100000 ∧ scanE (l.drop k2) 0 x.us = (ee, u, l.drop kk) ∧ w = wx)
                              case first =>
                                go_wp2_with fail
                                go_loopw [7, 9, 20] (fun i us e wr => ∃ (kk : Nat) (u : Bool) (ee : Int), i = .int .i64 (kk : Int) ∧ us = .bool u ∧ e = .int .i64 ee ∧ kk ≤ s.size ∧ 0 ≤ ee ∧ ee ≤ 100000 ∧ Aside0 (scanE (l.drop kk) ee u = scanE (l.drop k2) 0 x.us) ∧ w = wr) (fun i _ _ _ => s.size - (RowKit.intOf i).toNat)
                                case atStart => exact ⟨k2, x.us, 0, rfl, rfl, rfl, HK2.out, by omega, by omega, ⟨rfl⟩, rfl⟩
                                case round =>
                                  obtain ⟨kk, u, ee, rfl, rfl, rfl, hkk, he1, he2, HSC, rfl⟩ := hrel
                                  have HKK := Aside0.mk hkk
                                  have HE1 := Aside0.mk he1
                                  have HE2 := Aside0.mk he2
                                  rcases Nat.lt_or_ge kk s.size with h | h
                                  · have q1 := eq_true (show (kk : Int) < z by omega)
                                    have q2 := eq_true h
                                    have hx1 := bn s kk
                                    have hdr := HD.out.on kk h
                                    have ms : s.size - ((kk : Int) + 1).toNat < s.size - (kk : Int).toNat := by omega
                                    have MS := Aside0.mk ms
                                    have HKN := Aside0.mk (show kk + 1 ≤ s.size by omega)
                                    have hr := bt_range s kk
                                    have hk60 : (kk : Int) < 60 := by have := HS.out; omega
                                    generalize bt s (kk : Int) = c at hx1 hdr hr
                                    have HDR := Aside0.mk hdr
                                    clear ms h hkk hdr hk260
                                    by_cases c1 : c = 95
                                    · subst c1
                                      have E' := Aside0.mk (show scanE (l.drop (kk + 1)) ee true = scanE (l.drop k2) 0 x.us by rw [← HSC.out, HDR.out]; exact (if_pos rfl).symm)
                                      go_wp2_with fail
                                      go_roundw
                                      case measure => exact MS.out
                                      case rel => exact ⟨kk + 1, true, ee, rfl, rfl, rfl, HKN.out, HE1.out, HE2.out, ⟨E'.out⟩, trivial⟩
                                    · have p1 : (c == 95) = false := beq_eq_false_iff_ne.2 c1
                                      by_cases c2 : 48 ≤ c ∧ c ≤ 57
                                      · have p2 := eq_true c2.1
                                        have p3 := eq_true c2.2
                                        have hs2 : scanE (l.drop (kk + 1)) (if ee < 10000 then ee * 10 + c - 48 else ee) u = scanE (l.drop k2) 0 x.us := by
                                          rw [← HSC.out, HDR.out]
                                          exact ((if_neg c1).trans (if_pos c2)).symm
                                        by_cases c3 : ee < 10000
                                        · rw [if_pos c3] at hs2
                                          have E' := Aside0.mk hs2
                                          have p4 := eq_true c3
                                          have hc2 := c2
                                          have HB1 := Aside0.mk (show 0 ≤ ee * 10 + c - 48 by omega)
                                          have HB2 := Aside0.mk (show ee * 10 + c - 48 ≤ 100000 by omega)
                                          clear hs2 c1
                                          go_wp2_with fail
                                          go_roundw
                                          case measure => exact MS.out
                                          case rel => exact ⟨kk + 1, u, ee * 10 + c - 48, rfl, rfl, rfl, HKN.out, HB1.out, HB2.out, ⟨E'.out⟩, trivial⟩
                                        · rw [if_neg c3] at hs2
                                          have E' := Aside0.mk hs2
                                          have p4 := eq_false c3
                                          clear hs2 c1
                                          go_wp2_with fail
                                          go_roundw
                                          case measure => exact MS.out
                                          case rel => exact ⟨kk + 1, u, ee, rfl, rfl, rfl, HKN.out, HE1.out, HE2.out, ⟨E'.out⟩, trivial⟩
                                      · have E' := Aside0.mk (show scanE (l.drop k2) 0 x.us = (ee, u, l.drop kk) by rw [← HSC.out, HDR.out]; exact (if_neg c1).trans (if_neg c2))
                                        rcases (show ¬ 48 ≤ c ∨ (48 ≤ c ∧ ¬ c ≤ 57) by omega) with g | ⟨g1, g2⟩
                                        · have p3 := eq_false g
                                          clear g c1 c2
                                          go_wp2_with fail
                                          go_meet
                                          case rel => exact ⟨kk, u, ee, rfl, rfl, rfl, HKK.out, HE1.out, HE2.out, E'.out, rfl⟩
                                        · have p3 := eq_true g1
                                          have p4 := eq_false g2
                                          clear g1 g2 c1 c2
                                          go_wp2_with fail
                                          go_meet
                                          case rel => exact ⟨kk, u, ee, rfl, rfl, rfl, HKK.out, HE1.out, HE2.out, E'.out, rfl⟩
                                  · have q1 := eq_false (show ¬ (kk : Int) < z by omega)
                                    have E' := Aside0.mk (show scanE (l.drop k2) 0 x.us = (ee, u, l.drop kk) by rw [← HSC.out, show kk = s.size from Nat.le_antisymm hkk h, HD.out.off]; rfl)
                                    clear h hkk
                                    go_wp2_with fail
                                    go_meet
                                    case rel => exact ⟨kk, u, ee, rfl, rfl, rfl, HKK.out, HE1.out, HE2.out, E'.out, rfl⟩
                              case rest =>
                                obtain ⟨kk, u, ee, rfl, rfl, rfl, hkk, he1, he2, hsc, rfl⟩ := hcut
                                have HKK := Aside0.mk hkk
                                have HFE := HED.out.trans HED2.out
                                rw [hsc] at HFE
                                have HF := Aside0.mk HFE
                                clear hsc HFE hkk HED HED2
                                rcases HG.out with rfl | rfl
                                · go_wp2_with fail
                                  go_meet
                                  case rel => exact ⟨kk, u, D2 + ee, rfl, rfl, rfl, HKK.out, by omega, by omega, by rw [HF.out, Int.mul_one], rfl⟩
                                · go_wp2_with fail
                                  go_meet
                                  case rel => exact ⟨kk, u, D2 + -ee, rfl, rfl, rfl, HKK.out, by omega, by omega, by rw [HF.out, Int.mul_neg, Int.mul_one], rfl⟩
                      · have q1 := eq_true (show z ≤ (k1 : Int) by omega)
                        have HNO : Aside0 (reads l = none) := ⟨by rw [HRD2.out, EX'.out, show k1 = s.size from Nat.le_antisymm HK1.out h, HD.out.off]; rfl⟩
                        clear h hk1s
                        go_wp2_with fail
                        rw [Exit.noGoto_ret]
                        go_returns
                        exact rf_no HNO.out x.m x.tr k1 hx HHX.out HM64.out HK1L.out w
                  case rest =>
                    obtain ⟨k3, u, D, rfl, rfl, rfl, hk3, hDa, hDb, hex, rfl⟩ := hcut
                    have HK3 := Aside0.mk hk3
                    have HK3L := Aside0.mk (show k3 ≤ l.length by rw [HD.out.len]; exact hk3)
                    have HRD3 := Aside0.mk (show reads l = some (x.m, if x.m = 0 then 0 else D - NM, x.tr, u, l.drop k3) by rw [HRD2.out, hex]; rfl)
                    clear hex hk3 HRD2
                    obtain ⟨E, hE⟩ : ∃ E : Int, (if x.m = 0 then 0 else D - NM) = E := ⟨_, rfl⟩
                    have hEa : -200000 ≤ E := by rw [← hE]; split <;> omega
                    have hEb : E ≤ 200000 := by rw [← hE]; split <;> omega
                    have HE := Aside0.mk hE
                    have HY := HRD3.out
                    rw [hE] at HY
                    have HRD4 := Aside0.mk HY
                    clear hE HY HRD3
                    go_upto_if 241 with fail
                    go_cut [3] from 240 to 244 (fun e wx => e = .int .i64 E ∧ w = wx)
                    case first =>
                      by_cases hm : x.m = 0
                      · have p : ((x.m : Int) != 0) = false := by rw [hm]; rfl
                        have E' : Aside0 (E = 0) := ⟨by rw [← HE.out, if_pos hm]⟩
                        clear hm
                        go_wp2_with fail
                        go_meet
                        case rel => exact ⟨by rw [E'.out], rfl⟩
                      · have p : ((x.m : Int) != 0) = true := bne_iff_ne.2 (by omega)
                        have E' : Aside0 (E = D - NM) := ⟨by rw [← HE.out, if_neg hm]⟩
                        clear hm
                        go_wp2_with fail
                        go_meet
                        case rel => exact ⟨by rw [E'.out], rfl⟩
                    case rest =>
                      obtain ⟨rfl, rfl⟩ := hcut
                      clear HE hDa hDb
                      have HEa := Aside0.mk hEa
                      have HEb := Aside0.mk hEb
                      clear hEa hEb
                      cases u
                      · go_wp2
                        rw [Exit.noGoto_ret]
                        go_returns
                        exact rf_yes HRD4.out hx HHX.out HM64.out HEa.out HEb.out HK3L.out w
                      · have q1 := eq_true (show (k3 : Int) ≤ z by have := HK3.out; omega)
                        have q2 := eq_true HK3.out
                        have HU := fun t h W => under_any t h W
                        go_wp2_with (go_at_call 101; with_reducible refine (HU _ (by have := HS.out; have := HK3.out; simp; omega) _).mono ?_; rintro e w2 ⟨⟨b, rfl⟩, rfl⟩)
                        all_goals (rw [Exit.noGoto_ret]; go_returns; first | exact rf_us HRD4.out k3 hx HHX.out HM64.out HEa.out HEb.out HK3L.out w | exact rf_yes HRD4.out hx HHX.out HM64.out HEa.out HEb.out HK3L.out w)

theorem read_any (s : ByteArray) (hs : s.size ≤ 60) (w : World) : Calls Tryz.prog 80 #[.string s] w (RfRes (bytes s) w) := by
  rcases Nat.eq_zero_or_pos s.size with h | h
  · exact read_0 s h w
  · exact read_1 s h hs w
end Go.Proofs.YtjniglmijikojaaGreatDoor.Text
