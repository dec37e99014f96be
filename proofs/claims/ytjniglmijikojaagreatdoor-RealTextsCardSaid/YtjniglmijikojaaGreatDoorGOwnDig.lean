/- A number's digits, without the noughts at its end, in plain Lean. No conditions. setDigits: its contract. The condition: the row of digits can be written. shortFloat of any finite number but 0: its contract: digits in the number's interval. The condition: the table of tens is laid. ftoa64 of a finite number: its contract. The conditions: the tables are laid. FormatFloat and Text: their contracts. The conditions: 64 bits; the tables are laid. -/
import Derived.Lib.ItoaNum
import Derived.Test.YtjniglmijikojaaGreatDoorGOwnPw
import Derived.Test.YtjniglmijikojaaGreatDoorGMyBuf
import Derived.Test.YtjniglmijikojaaGreatDoorGMyShelf
import Derived.Lib.ItoaMem
import Derived.Test.YtjniglmijikojaaGreatDoorGMyShort
import Derived.Test.YtjniglmijikojaaGreatDoorGMyEfgF
import Derived.Test.YtjniglmijikojaaGreatDoorGOwnQuo
import Derived.Lib.LaidTab
import Derived.Laws.MakeOwn
import Derived.Test.YtjniglmijikojaaGreatDoorGMyShift
import Derived.Test.YtjniglmijikojaaGreatDoorGOwnFloat
namespace Go.Proofs.YtjniglmijikojaaGreatDoor.Text
open Go.Lib Go.Proofs.YtjniglmijikojaaGreatDoor.Own

/-- Without the noughts at its end. -/
def strip (d : Nat) : Nat := if h : d ≠ 0 ∧ d % 10 = 0 then strip (d / 10) else d
  termination_by d
  decreasing_by omega

/-- n digits of d, the first ahead. -/
def dls (d n : Nat) : List Int := (List.range n).map fun j => ((d / 10 ^ (n - 1 - j) % 10 : Nat) : Int) + 48
def dsOf (d : Nat) : List Int := dls (strip d) (nDigits (strip d))

theorem dls_len (d n : Nat) : (dls d n).length = n := by simp [dls]
theorem dls_at (d n j : Nat) (h : j < (dls d n).length) : (dls d n)[j] = ((d / 10 ^ (n - 1 - j) % 10 : Nat) : Int) + 48 := by simp [dls]
theorem strip_no {d : Nat} (h : d % 10 ≠ 0) : strip d = d := by rw [strip, dif_neg (fun g => h g.2)]
theorem strip_pow (d k : Nat) (h : d % 10 ≠ 0) : strip (d * 10 ^ k) = d := by
  induction k with
  | zero => rw [Nat.pow_zero, Nat.mul_one]; exact strip_no h
  | succ k ih =>
    have e : d * 10 ^ (k + 1) = d * 10 ^ k * 10 := by rw [Nat.pow_succ, Nat.mul_assoc]
    have hp : 0 < d * 10 ^ k := Nat.mul_pos (by omega) (Nat.pow_pos (by omega))
    rw [strip, dif_pos ⟨by omega, by omega⟩, e, Nat.mul_div_cancel _ (by omega)]
    exact ih
theorem nd_mul (d k : Nat) (h : 0 < d) : nDigits (d * 10 ^ k) = nDigits d + k := by
  induction k with
  | zero => rw [Nat.pow_zero, Nat.mul_one]; rfl
  | succ k ih =>
    have e : d * 10 ^ (k + 1) = d * 10 ^ k * 10 := by rw [Nat.pow_succ, Nat.mul_assoc]
    have hp : 0 < d * 10 ^ k := Nat.mul_pos (by omega) (Nat.pow_pos (by omega))
    rw [nDigits_big (by omega), e, Nat.mul_div_cancel _ (by omega), ih]
    rfl
theorem nd_low : ∀ (u : Nat), 0 < u → 10 ^ (nDigits u - 1) ≤ u := by
  intro u
  induction u using Nat.strongRecOn with
  | ind u ih =>
    intro h
    by_cases g : u < 10
    · rw [nDigits_small g]; exact h
    · rw [nDigits_big g, Nat.add_sub_cancel]
      have h1 := ih (u / 10) (by omega) (by omega)
      have h2 := nDigits_pos (u / 10)
      obtain ⟨k, hk⟩ : ∃ k, nDigits (u / 10) = k + 1 := ⟨nDigits (u / 10) - 1, by omega⟩
      rw [hk] at h1 ⊢
      rw [Nat.add_sub_cancel] at h1
      rw [Nat.pow_succ]
      omega
theorem nd_le {u k : Nat} (hk : 1 ≤ k) (h : u < 10 ^ k) : nDigits u ≤ k := by
  rcases Nat.eq_zero_or_pos u with e | hu
  · subst e
    rw [nDigits_small (by omega)]
    exact hk
  · have h1 := nd_low u hu
    rcases Nat.lt_or_ge k (nDigits u) with g | g
    · have := Nat.pow_le_pow_right (n := 10) (by omega) (show k ≤ nDigits u - 1 by omega)
      omega
    · exact g
theorem strip_spec : ∀ (d : Nat), 0 < d → ∃ k, d = strip d * 10 ^ k ∧ strip d % 10 ≠ 0 := by
  intro d
  induction d using Nat.strongRecOn with
  | ind d ih =>
    intro h
    by_cases g : d % 10 = 0
    · obtain ⟨k, h1, h2⟩ := ih (d / 10) (by omega) (by omega)
      have e : strip d = strip (d / 10) := by rw [strip, dif_pos ⟨by omega, g⟩]
      rw [e]
      refine ⟨k + 1, ?_, h2⟩
      rw [Nat.pow_succ, ← Nat.mul_assoc, ← h1]
      omega
    · exact ⟨0, by rw [strip_no g, Nat.pow_zero, Nat.mul_one], by rw [strip_no g]; exact g⟩
/-- How the loop finds it: m digits are left of n. -/
theorem strip_found {d m : Nat} (hm : m ≤ nDigits d) (h1 : d % 10 ^ (nDigits d - m) = 0) (h2 : d / 10 ^ (nDigits d - m) % 10 ≠ 0) : nDigits (strip d) = m ∧ strip d = d / 10 ^ (nDigits d - m) := by
  obtain ⟨k, hk⟩ : ∃ k, nDigits d - m = k := ⟨_, rfl⟩
  rw [hk] at h1 h2 ⊢
  have e : d = d / 10 ^ k * 10 ^ k := by
    have := Nat.div_add_mod d (10 ^ k)
    rw [h1, Nat.add_zero, Nat.mul_comm] at this
    exact this.symm
  generalize d / 10 ^ k = c at e h2
  have hs : strip d = c := by rw [e]; exact strip_pow c k h2
  refine ⟨?_, hs⟩
  have hc : 0 < c := by
    rcases Nat.eq_zero_or_pos c with g | g
    · subst g; simp at h2
    · exact g
  rw [hs]
  have := nd_mul c k hc
  rw [← e] at this
  omega
theorem top_digit {d : Nat} (hd : 0 < d) : d / 10 ^ (nDigits d - 1) % 10 ≠ 0 := by
  have h1 := nd_low d hd
  have h2 := lt_pow_nDigits d
  obtain ⟨k, hk⟩ : ∃ k, nDigits d = k + 1 := ⟨nDigits d - 1, by have := nDigits_pos d; omega⟩
  rw [hk] at h1 h2 ⊢
  rw [Nat.add_sub_cancel] at h1 ⊢
  rw [Nat.pow_succ] at h2
  have hp : 0 < 10 ^ k := Nat.pow_pos (by omega)
  have a1 : 1 ≤ d / 10 ^ k := (Nat.le_div_iff_mul_le hp).2 (by omega)
  have a2 : d / 10 ^ k < 10 := (Nat.div_lt_iff_lt_mul hp).2 (by omega)
  omega
theorem mod_step {d k : Nat} (h1 : d % 10 ^ k = 0) (h2 : d / 10 ^ k % 10 = 0) : d % 10 ^ (k + 1) = 0 := by
  rw [Nat.pow_succ, Nat.mod_mul, h1, h2]
  simp
end Go.Proofs.YtjniglmijikojaaGreatDoor.Text
namespace Go.Proofs.YtjniglmijikojaaGreatDoor.Text
set_option linter.unusedSimpArgs false
set_option linter.unusedVariables false
open Go.RowKit Go.Lib Go.Sort Go.Proofs.YtjniglmijikojaaGreatDoor.Own Go.Proofs.YtjniglmijikojaaGreatDoorW.PrintWords

abbrev encB : UInt8 → Value := fun (b : UInt8) => Value.int .u8 (b.toNat : Int)

theorem below_putRow (w : World) (b off : Nat) (dk : Array UInt8) (n : Nat) : Below b w ((putRow encB w b off dk).drewN n) := by
  refine ⟨rfl, rfl, rfl, ?_, fun k hk => ?_⟩
  · show w.heap.size ≤ (putRow encB w b off dk).heap.size
    simp [putRow, mapBlock]
  · show (putRow encB w b off dk).heap[k]? = w.heap[k]?
    have : b ≠ k := by omega
    simp [putRow, mapBlock, Array.getElem?_modify, this]

theorem dg_int (u j : Nat) : ((dg u j).toNat : Int) = ((u / 10 ^ j % 10 : Nat) : Int) + 48 := by
  unfold dg
  have : u / 10 ^ j % 10 < 10 := Nat.mod_lt _ (by omega)
  rw [UInt8.toNat_ofNat']
  omega

theorem cells_dig (w : World) (b n v' d N : Nat) (dk : Array UInt8) (hH : Holds encB w b 0 (Array.replicate N 0)) (hF : FmtInv N d 0 v' dk) (j : Nat) (hj : j < N) :
    ((putRow encB w b 0 dk).drewN n).cell? ⟨b, j, none⟩ = some (.int .u8 (((d / 10 ^ (N - 1 - j) % 10 : Nat) : Int) + 48)) := by
  have h := cell?_putRow encB w b 0 (Array.replicate N 0) dk hH (by rw [hF.size]; simp) j (by rw [hF.size]; exact hj)
  rw [World.cell?_drewN]
  rw [Nat.zero_add] at h
  rw [h, hF.done j (Nat.zero_le _) hj]
  show some (Value.int .u8 ((dg d (N - 1 - j)).toNat : Int)) = _
  rw [dg_int]

/-- The digits stand in the row. -/
def DigAt (w : World) (b : Nat) (ds : List Int) : Prop := ∀ j (h : j < ds.length), w.cell? ⟨b, j, none⟩ = some (.int .u8 ds[j])

set_option maxHeartbeats 2000000 in
theorem set_any (w : World) (b d : Nat) (p : Int) (hd : 0 < d) (hd2 : d < 10 ^ 17) (hp1 : -1000 ≤ p) (hp2 : p ≤ 1000) (hH : Holds encB w b 0 (Array.replicate (nDigits d) 0)) (hlt : b < w.heap.size) :
    Calls Tryz.prog 45 #[.slice (some ⟨b, 0, none⟩) 32 32, .int .u64 (d : Int), .int .i64 p, .int .i64 (nDigits d : Int)] w fun e w' =>
      e = .returned (.tuple #[.int .i64 ((nDigits d : Int) + p), .int .i64 ((dsOf d).length : Int)]) ∧ Below b w w' ∧ DigAt w' b (dsOf d) := by
  have hN := nd_le (by omega) hd2
  have hN1 := nDigits_pos d
  have hfmt := Tryz.internal_strconv_formatBase10 b 0 32 d (Array.replicate (nDigits d) 0) w hH (by rw [Array.size_replicate]; exact lt_pow_nDigits d) (by omega) (by rw [Array.size_replicate]; omega)
  rw [Array.size_replicate] at hfmt
  have HH := Aside0.mk hH
  have HTOP := Aside0.mk (top_digit hd)
  have HFD := Aside0.mk (fun m hm h1 h2 => strip_found (d := d) (m := m) hm h1 h2)
  obtain ⟨N, hNe⟩ : ∃ N, nDigits d = N := ⟨_, rfl⟩
  rw [hNe] at hN hN1 hfmt HH HTOP HFD ⊢
  have HD := Aside0.mk hd
  clear hH hNe hd hd2
  have g1 := eq_true (show (N : Int) ≤ 32 by omega)
  have g1' := eq_true (show N ≤ 32 by omega)
  go_enter Tryz.func45, Tryz.ntmps45
  go_wp2_with fail
  refine hfmt.mono ?_
  rintro e w' ⟨rfl, n, v', dk, hw, hF⟩
  have hcs : ∀ j, j < N → w'.cell? ⟨b, j, none⟩ = some (.int .u8 (((d / 10 ^ (N - 1 - j) % 10 : Nat) : Int) + 48)) := by rw [hw]; exact fun j hj => cells_dig w b n v' d N dk HH.out hF j hj
  have hbs : Below b w w' := by rw [hw]; exact below_putRow w b 0 dk n
  have HC := Aside0.mk hcs
  have HB := Aside0.mk hbs
  have hlt' : b < w'.heap.size := Nat.lt_of_lt_of_le hlt (by rw [hw]; show w.heap.size ≤ (putRow encB w b 0 dk).heap.size; simp [putRow, mapBlock])
  clear hw hF HH hfmt hcs hbs
  go_wp2
  go_loop [3] (fun i => ∃ m : Nat, 1 ≤ m ∧ m ≤ N ∧ d % 10 ^ (N - m) = 0 ∧ i = .int .i64 (m : Int)) (fun i => (RowKit.intOf i).toNat)
  case atStart => exact ⟨N, hN1, Nat.le_refl _, by rw [Nat.sub_self, Nat.pow_zero, Nat.mod_one], rfl⟩
  case round =>
    obtain ⟨m, hm1, hmN, hmod, rfl⟩ := hrel
    have hc := HC.out (m - 1) (by omega)
    rw [show N - 1 - (m - 1) = N - m by omega] at hc
    have e1 : (m : Int) - 1 = ((m - 1 : Nat) : Int) := by omega
    have g2 := eq_true (show (0 : Int) < (m : Int) by omega)
    have g2' := eq_true (show (m : Int) > 0 by omega)
    have g2n := eq_true (show 0 < m by omega)
    have g3 := eq_true (show m - 1 < 32 by omega)
    have g4 := eq_true (show ((m - 1 : Nat) : Int) < 32 by omega)
    obtain ⟨x, hx⟩ : ∃ x : Nat, d / 10 ^ (N - m) % 10 = x := ⟨_, rfl⟩
    have hx10 : x < 10 := by rw [← hx]; exact Nat.mod_lt _ (by omega)
    rw [hx] at hc
    have HX := Aside0.mk hx
    have HM := Aside0.mk hmod
    have HM1 := Aside0.mk hm1
    have HMN := Aside0.mk hmN
    clear hx hmod
    obtain ⟨m1, hm1e⟩ : ∃ m1, m - 1 = m1 := ⟨_, rfl⟩
    rw [hm1e] at hc e1 g3 g4
    have HE := Aside0.mk hm1e
    have hm1b : m1 ≤ 16 := by omega
    clear hm1e
    by_cases h0 : x = 0
    · subst h0
      have hm2 : m ≠ 1 := fun h => by
        subst h
        exact HTOP.out HX.out
      have MS := Aside0.mk (show (m1 : Int).toNat < (m : Int).toNat by have := HE.out; omega)
      have H2 := Aside0.mk (show 1 ≤ m1 ∧ m1 ≤ N by have := HE.out; omega)
      have HM2 : Aside0 (d % 10 ^ (N - m1) = 0) := ⟨by
        have e : N - m1 = N - m + 1 := by have := HE.out; omega
        rw [e]
        exact mod_step HM.out HX.out⟩
      clear hm2 hm1 hmN
      go_wp2
      go_round
      case rel => exact ⟨m1, H2.out.1, H2.out.2, HM2.out, rfl⟩
      case measure => exact MS.out
    · have p1 : ((x : Int) + 48 == 48) = false := beq_eq_false_iff_ne.2 (by omega)
      have HX0 := Aside0.mk h0
      clear h0
      go_wp2
      go_ret2
      obtain ⟨r1, r2⟩ := HFD.out m hmN HM.out (by rw [HX.out]; exact HX0.out)
      have rl : (dsOf d).length = m := by unfold dsOf; rw [dls_len, r1]
      refine ⟨by rw [rl]; rfl, HB.out, fun j hj => ?_⟩
      have hj' : j < m := by rw [rl] at hj; exact hj
      rw [HC.out j (by omega)]
      congr 2
      have e2 : (dsOf d)[j] = ((strip d / 10 ^ (nDigits (strip d) - 1 - j) % 10 : Nat) : Int) + 48 := dls_at _ _ _ hj
      rw [e2, r1, r2, Nat.div_div_eq_div_mul, ← Nat.pow_add, show N - m + (m - 1 - j) = N - 1 - j by omega]
end Go.Proofs.YtjniglmijikojaaGreatDoor.Text
namespace Go.Proofs.YtjniglmijikojaaGreatDoor.Text
open Go.RowKit Go.Lib Go.Proofs.YtjniglmijikojaaGreatDoor.Own

/-- The digits and the exponent that shortFloat gives. -/
def srt (M : Nat) (q : Int) (z : Nat) : Nat × Int := ans (sfr (M * 2 ^ z) (q - z) z) (sfp (M * 2 ^ z) (q - z) z)
def ShortRes (M : Nat) (q : Int) (z : Nat) (w : World) (e' : Ending) (w' : World) : Prop :=
  e' = .returned (.tuple #[.int .u64 ((srt M q z).1 : Int), .int .i64 (srt M q z).2]) ∧ Below w.heap.size w w'

theorem l2_range (p : Int) (h1 : -400 ≤ p) (h2 : p ≤ 400) : -2000 ≤ Own.l2 p ∧ Own.l2 p ≤ 2000 := by
  unfold Own.l2
  omega

theorem short_any (M : Nat) (q : Int) (hM : 0 < M) (hM2 : M < 9007199254740992) (hq1 : -1074 ≤ q) (hq2 : q ≤ 971) (hn : 4503599627370496 ≤ M ∨ q = -1074) (z : Nat) (hz1 : 9223372036854775808 ≤ M * 2 ^ z) (hz2 : M * 2 ^ z < 18446744073709551616)
    (w : World) (ht : Tens w) : Calls Tryz.prog 52 #[.int .u64 ((M * 2 ^ z : Nat) : Int), .int .i64 (q - z)] w (ShortRes M q z w) := by
  have hz11 : 11 ≤ z := by
    rcases Nat.lt_or_ge z 11 with h | h
    · exfalso
      have h1 : 2 ^ z ≤ 2 ^ 10 := Nat.pow_le_pow_right (by omega) (by omega)
      have h2 := Nat.mul_le_mul_left M h1
      omega
    · exact h
  have hz63 : z ≤ 63 := by
    rcases Nat.lt_or_ge 63 z with h | h
    · exfalso
      have h1 : 2 ^ 64 ≤ 2 ^ z := Nat.pow_le_pow_right (by omega) (by omega)
      have h2 : 1 * 2 ^ 64 ≤ M * 2 ^ z := Nat.mul_le_mul hM h1
      omega
    · exact h
  have eo : M * 2 ^ z / 2 ^ z % 2 = M % 2 := by rw [Nat.mul_div_cancel _ (Nat.pow_pos (by omega))]
  -- from the walk's answer to the answer by the definition
  have done : ∀ (p : Int) (mn mx : Nat) (o : Nat), sfp (M * 2 ^ z) (q - z) z = p → sfm (M * 2 ^ z) (q - z) z = mn → M * 2 ^ z + 2 ^ (z - 1) = mx → M % 2 = o →
      Calls Tryz.prog 52 #[.int .u64 ((M * 2 ^ z : Nat) : Int), .int .i64 (q - z)] w (fun e' w' => e' = .returned (.tuple #[.int .u64 ((ans (shortOf (usc (row10 p).1 (row10 p).2 (sh (q - z) p) mn) (usc (row10 p).1 (row10 p).2 (sh (q - z) p) mx) (usc (row10 p).1 (row10 p).2 (sh (q - z) p) (M * 2 ^ z)) o) p).1 : Int), .int .i64 (ans (shortOf (usc (row10 p).1 (row10 p).2 (sh (q - z) p) mn) (usc (row10 p).1 (row10 p).2 (sh (q - z) p) mx) (usc (row10 p).1 (row10 p).2 (sh (q - z) p) (M * 2 ^ z)) o) p).2]) ∧ Below w.heap.size w w') →
      Calls Tryz.prog 52 #[.int .u64 ((M * 2 ^ z : Nat) : Int), .int .i64 (q - z)] w (ShortRes M q z w) := by
    intro p mn mx o h1 h2 h3 h4 hc
    refine hc.mono ?_
    rintro e' w' ⟨rfl, hb⟩
    have hr : sfr (M * 2 ^ z) (q - z) z = shortOf (usc (row10 p).1 (row10 p).2 (sh (q - z) p) mn) (usc (row10 p).1 (row10 p).2 (sh (q - z) p) mx) (usc (row10 p).1 (row10 p).2 (sh (q - z) p) (M * 2 ^ z)) o := by
      unfold sfr
      rw [h1, h2, h3, eo, h4]
    refine ⟨?_, hb⟩
    unfold srt
    rw [hr, h1]
  by_cases hA : M = 4503599627370496 ∧ -1074 < q
  · obtain ⟨hM0, hq0⟩ := hA
    have hz : z = 11 := by
      rcases Nat.lt_or_ge 11 z with h | h
      · exfalso
        have h1 : 2 ^ 12 ≤ 2 ^ z := Nat.pow_le_pow_right (by omega) h
        have h2 := Nat.mul_le_mul_left M h1
        omega
      · omega
    subst hM0 hz
    have hw := okW_spec (wA (q - 11) (by omega) (by omega))
    have hcnd : (4503599627370496 : Nat) * 2 ^ 11 = 9223372036854775808 ∧ -1085 < q - ((11 : Nat) : Int) := ⟨by decide, by omega⟩
    exact done (-skw (q - 11 + 11)) 9223372036854775296 9223372036854776832 0 (if_pos hcnd) (if_pos hcnd) (by decide) (by decide)
      (shortA (q - 11) _ (by omega) (by omega) rfl hw.2.2.1 hw.2.2.2.1 hw.2.2.2.2.1 hw.2.2.2.2.2 (l2_range _ (by omega) (by omega)) w ht)
  · by_cases hM52 : 4503599627370496 ≤ M
    · have hz : z = 11 := by
        rcases Nat.lt_or_ge 11 z with h | h
        · exfalso
          have h1 : 2 ^ 12 ≤ 2 ^ z := Nat.pow_le_pow_right (by omega) h
          have h2 := Nat.mul_le_mul_left M h1
          omega
        · omega
      subst hz
      have hw := okW_spec (wB (q - 11) (by omega) (by omega))
      have hcnd : ¬ (M * 2 ^ 11 = 9223372036854775808 ∧ -1085 < q - ((11 : Nat) : Int)) := fun h => hA ⟨by omega, by omega⟩
      have hlr := l2_range (-l10 (q - 11 + 11)) (by omega) (by omega)
      by_cases hm : M * 2048 = 9223372036854775808
      · have hM0 : M = 4503599627370496 := by omega
        have hq0 : q = -1074 := by omega
        subst hM0 hq0
        exact done (-l10 (-1074 - 11 + 11)) 9223372036854774784 9223372036854776832 0 (if_neg hcnd) (if_neg hcnd) (by decide) (by decide)
          (shortL (-1074 - 11) _ (by omega) rfl hw.2.2.1 hw.2.2.2.1 hw.2.2.2.2.1 hw.2.2.2.2.2 hlr w ht)
      · have e1 : ((M * 2 ^ 11 : Nat) : Int) = (M : Int) * 2048 := by omega
        rcases Nat.mod_two_eq_zero_or_one M with h0 | h0
        · refine done (-l10 (q - 11 + 11)) (M * 2048 - 1024) (M * 2048 + 1024) 0 (if_neg hcnd) (if_neg hcnd) rfl h0 ?_
          rw [e1]
          exact shortB0 M (q - 11) _ hM52 hM2 (by omega) (by omega) hm h0 rfl hw.2.2.1 hw.2.2.2.1 hw.2.2.2.2.1 hw.2.2.2.2.2 hlr w ht
        · refine done (-l10 (q - 11 + 11)) (M * 2048 - 1024) (M * 2048 + 1024) 1 (if_neg hcnd) (if_neg hcnd) rfl h0 ?_
          rw [e1]
          exact shortB1 M (q - 11) _ hM52 hM2 (by omega) (by omega) h0 rfl hw.2.2.1 hw.2.2.2.1 hw.2.2.2.2.1 hw.2.2.2.2.2 hlr w ht
    · have hq : q = -1074 := by omega
      have hz12 : 12 ≤ z := by
        rcases Nat.lt_or_ge z 12 with h | h
        · exfalso
          have h1 : 2 ^ z ≤ 2 ^ 11 := Nat.pow_le_pow_right (by omega) (by omega)
          have h2 := Nat.mul_le_mul_left M h1
          omega
        · exact h
      have hcnd : ¬ (M * 2 ^ z = 9223372036854775808 ∧ -1085 < q - (z : Int)) := fun h => by omega
      have hpe : sfp (M * 2 ^ z) (q - z) z = 324 := by
        unfold sfp
        rw [if_neg hcnd, hq, show (-1074 : Int) - z + z = -1074 by omega]
        decide
      have hw := okW_spec (by
        have := wC (q - z) (by omega) (by omega)
        unfold okWC at this
        exact this)
      have hY1 : 1 ≤ 2 ^ (z - 1) := Nat.pow_pos (by omega)
      have hY2 : 2 ^ (z - 1) ≤ 4611686018427387904 := by
        have h : (2 : Nat) ^ (z - 1) ≤ 2 ^ 62 := Nat.pow_le_pow_right (by omega) (by omega)
        exact h
      have hmx : M * 2 ^ z + 2 ^ (z - 1) < 18446744073709551616 := by
        have hd : 2 ^ z * (2 ^ (64 - z)) = 18446744073709551616 := by rw [← Nat.pow_add, show z + (64 - z) = 64 by omega]
        have h1 : M < 2 ^ (64 - z) := by
          rw [← hd, Nat.mul_comm] at hz2
          exact Nat.lt_of_mul_lt_mul_left hz2
        have h2 : (M + 1) * 2 ^ z ≤ 18446744073709551616 := by
          rw [← hd, Nat.mul_comm]
          exact Nat.mul_le_mul_left _ h1
        have e2 : 2 ^ z = 2 * 2 ^ (z - 1) := by
          rw [show z = 1 + (z - 1) by omega, Nat.pow_add, Nat.pow_one, show 1 + (z - 1) - 1 = z - 1 by omega]
        rw [Nat.add_mul, Nat.one_mul] at h2
        omega
      have hlr := l2_range 324 (by omega) (by omega)
      have hme : sfm (M * 2 ^ z) (q - z) z = M * 2 ^ z - 2 ^ (z - 1) := if_neg hcnd
      obtain ⟨m, hm⟩ : ∃ m, m = M * 2 ^ z := ⟨_, rfl⟩
      obtain ⟨Y, hY⟩ : ∃ Y, Y = 2 ^ (z - 1) := ⟨_, rfl⟩
      rw [← hY] at hY1 hY2 hmx hme done
      rw [← hm] at hz1 hmx hme hpe done ⊢
      have he : q - (z : Int) = -1074 - z := by omega
      rcases Nat.mod_two_eq_zero_or_one M with h0 | h0
      · refine done 324 (m - Y) (m + Y) 0 hpe hme rfl h0 ?_
        by_cases hb : m = 9223372036854775808
        · exact shortC0t M z m Y (q - z) 324 hz12 hz63 hm hY hY1 hY2 hz1 hmx he (by rw [hb]; rfl) h0 (by omega) rfl (by omega) (by omega) hw.2.2.2.2.1 hw.2.2.2.2.2 hlr w ht
        · exact shortC0f M z m Y (q - z) 324 hz12 hz63 hm hY hY1 hY2 hz1 hmx he (beq_eq_false_iff_ne.2 (by omega)) h0 (by omega) rfl (by omega) (by omega) hw.2.2.2.2.1 hw.2.2.2.2.2 hlr w ht
      · refine done 324 (m - Y) (m + Y) 1 hpe hme rfl h0 ?_
        by_cases hb : m = 9223372036854775808
        · exact shortC1t M z m Y (q - z) 324 hz12 hz63 hm hY hY1 hY2 hz1 hmx he (by rw [hb]; rfl) h0 (by omega) rfl (by omega) (by omega) hw.2.2.2.2.1 hw.2.2.2.2.2 hlr w ht
        · exact shortC1f M z m Y (q - z) 324 hz12 hz63 hm hY hY1 hY2 hz1 hmx he (beq_eq_false_iff_ne.2 (by omega)) h0 (by omega) rfl (by omega) (by omega) hw.2.2.2.2.1 hw.2.2.2.2.2 hlr w ht
end Go.Proofs.YtjniglmijikojaaGreatDoor.Text
namespace Go.Proofs.YtjniglmijikojaaGreatDoor.Text
set_option linter.unusedSimpArgs false
set_option linter.unusedVariables false
open Go.RowKit Go.Lib Go.Sort Go.Proofs.YtjniglmijikojaaGreatDoor.Own Go.Proofs.YtjniglmijikojaaGreatDoorW.PrintWords

theorem own_move {w w2 : World} {base size n : Nat} {e : TypeId} {v : Value} {xs : List Value} (h : w.ownsRow base e size v n xs) (hb : ∀ g, g < w.heap.size → w2.heap[g]? = w.heap[g]?) : w2.ownsRow base e size v n xs := by
  refine ⟨h.1, ?_⟩
  rcases h.2 with h | ⟨g, cap, cur, rfl, h1, h2, h3⟩
  · exact .inl h
  · exact .inr ⟨g, cap, cur, rfl, h1, (hb g (Array.getElem?_eq_some_iff.1 h2).1).trans h2, h3⟩
theorem own_ne_new {w : World} {base size n : Nat} {e : TypeId} {v : Value} {xs : List Value} (h : w.ownsRow base e size v n xs) : v.ownBlock ≠ some w.heap.size := by
  rcases h.2 with ⟨rfl, _⟩ | ⟨g, cap, cur, rfl, h1, h2, h3⟩
  · simp [Value.ownBlock]
  · have := (Array.getElem?_eq_some_iff.1 h2).1
    simp [Value.ownBlock]
    omega
def zeros32 : Array Value := #[.int .u8 0, .int .u8 0, .int .u8 0, .int .u8 0, .int .u8 0, .int .u8 0, .int .u8 0, .int .u8 0, .int .u8 0, .int .u8 0, .int .u8 0, .int .u8 0, .int .u8 0, .int .u8 0, .int .u8 0, .int .u8 0, .int .u8 0, .int .u8 0, .int .u8 0, .int .u8 0, .int .u8 0, .int .u8 0, .int .u8 0, .int .u8 0, .int .u8 0, .int .u8 0, .int .u8 0, .int .u8 0, .int .u8 0, .int .u8 0, .int .u8 0, .int .u8 0]
theorem f39 (b : Nat) (w : World) : (callFunc 39 #[.float .f64 b]).run Tryz.prog w = .ok (.value (.int .u64 (b : Int))) w := by kernel_rfl
theorem sl32 (a : Addr) (W : World) : (Instr.sliceAt 69 (.pointer (some a)) none none none).run Tryz.prog W = .ok (.slice (some a) 32 32) W := by kernel_rfl
theorem zeros32_at (j : Nat) (h : j < 32) : zeros32[j]? = some (Value.int .u8 0) := by
  have h32 : j = 0 ∨ j = 1 ∨ j = 2 ∨ j = 3 ∨ j = 4 ∨ j = 5 ∨ j = 6 ∨ j = 7 ∨ j = 8 ∨ j = 9 ∨ j = 10 ∨ j = 11 ∨ j = 12 ∨ j = 13 ∨ j = 14 ∨ j = 15 ∨ j = 16 ∨ j = 17 ∨ j = 18 ∨ j = 19 ∨ j = 20 ∨ j = 21 ∨ j = 22 ∨ j = 23 ∨ j = 24 ∨ j = 25 ∨ j = 26 ∨ j = 27 ∨ j = 28 ∨ j = 29 ∨ j = 30 ∨ j = 31 := by omega
  rcases h32 with rfl | rfl | rfl | rfl | rfl | rfl | rfl | rfl | rfl | rfl | rfl | rfl | rfl | rfl | rfl | rfl | rfl | rfl | rfl | rfl | rfl | rfl | rfl | rfl | rfl | rfl | rfl | rfl | rfl | rfl | rfl | rfl <;> rfl
theorem holds32 (W : World) (b : Nat) (t : TypeId) (n : Nat) (hn : n ≤ 32) (h : W.heap[b]? = some (.cells zeros32 t (0, 0))) : Holds encB W b 0 (Array.replicate n 0) := fun j hj => by
  have hj' : j < n := by simpa using hj
  refine ⟨?_, ?_⟩
  · rw [Nat.zero_add]
    have e : W.cell? ⟨b, j, none⟩ = zeros32[j]? := by simp [World.cell?, h]
    rw [e, zeros32_at j (by omega), getElem!_pos _ j (by simpa using hj')]
    simp
  · simp [World.frozen?, h]

/-- What ftoa64 writes of a finite number M * 2^q, z noughts ahead of its bits. -/
def numTx (neg : Bool) (M : Nat) (q : Int) (z : Nat) : List Int := tx neg (dsOf (srt M q z).1) ((nDigits (srt M q z).1 : Int) + (srt M q z).2)
def FtRes (w0 : World) (l : List Int) (e : Ending) (w' : World) : Prop := ∃ v, e = .returned v ∧ w'.ownsRow w0.heap.size 5 1 v l.length (nums .u8 l) ∧ Below w0.heap.size w0 w'

set_option maxHeartbeats 8000000 in
set_option maxRecDepth 100000 in
theorem ft_sub (w0 w : World) (A : Option Addr) (c : Nat) (x M z : Nat) (neg : Bool) (X S Y E F : Int) (hX : (x : Int) = X) (hX0 : 0 ≤ X) (s1 : X / 9223372036854775808 = S) (s1n : (S != 0) = neg) (hS : 0 ≤ S) (hS1 : S ≤ 1) (s2 : X / 4503599627370496 = Y) (hY : 0 ≤ Y) (hY1 : Y ≤ 4095)
    (a1 : bits .and .i64 Y 2047 = E) (a2 : bits .and .u64 X 4503599627370495 = F) (hE0 : E = 0) (hF : F = (M : Int))
    (hM : 0 < M) (hM2 : M < 9007199254740992) (hz1 : 9223372036854775808 ≤ M * 2 ^ z) (hz2 : M * 2 ^ z < 18446744073709551616) (hz63 : z ≤ 63) (hbl : Lib.bitLen M = 64 - z)
    (hB : Below w0.heap.size w0 w) (hown : w.ownsRow w0.heap.size 5 1 (.slice A 0 c) 0 (nums .u8 [])) (ht : Tabs w) :
    Calls Tryz.prog 32 #[.slice A 0 c, .float .f64 x, .int .u8 103, .int .i64 (-1)] w (FtRes w0 (numTx neg M (-1074) z)) := by
  have HB := Aside0.mk hB
  have HO := Aside0.mk hown
  have h39 : ∀ W, (callFunc 39 #[.float .f64 x]).run Tryz.prog W = .ok (.value (.int .u64 X)) W := fun W => hX ▸ f39 x W
  subst hE0 hF
  have HT := Aside0.mk ht
  have SI := short_in M (-1074) hM hM2 (by decide) (by decide) (.inr rfl) z hz1 hz2
  have LN := Aside0.mk (fun W => Tryz.bits_Len64 (M : Int) W (by omega) (by omega))
  have SH := Aside0.mk (fun W ht => short_any M (-1074) hM hM2 (by decide) (by decide) (.inr rfl) z hz1 hz2 W ht)
  unfold numTx
  unfold ShortRes at SH
  have SI' : 0 < (srt M (-1074) z).1 ∧ (srt M (-1074) z).1 < 100000000000000000 ∧ -324 ≤ (srt M (-1074) z).2 ∧ (srt M (-1074) z).2 ≤ 308 := SI.2
  obtain ⟨m, hm⟩ : ∃ m, M * 2 ^ z = m := ⟨_, rfl⟩
  have hsh : IntKind.u64.wrap ((M : Int) * 2 ^ z) = (m : Int) := by
    have e : (M : Int) * 2 ^ z = ((M * 2 ^ z : Nat) : Int) := by simp
    rw [e, hm]
    exact wrap_u _ (by omega) (by omega)
  rw [hm] at SH hz1 hz2
  have hq : (srt M (-1074) z) = ((srt M (-1074) z).1, (srt M (-1074) z).2) := rfl
  generalize (srt M (-1074) z).1 = d at *
  generalize (srt M (-1074) z).2 = P at *
  clear hq SI
  have hL : ((Lib.bitLen ((M : Int).toNat) : Nat) : Int) = 64 - (z : Int) := by rw [Int.toNat_natCast, hbl]; omega
  rw [hL] at LN
  have hzz : (64 : Int) - (64 - (z : Int)) = (z : Int) := by omega
  have hM0 : ((M : Int) == 0) = false := beq_eq_false_iff_ne.2 (by omega)
  obtain ⟨hd0, hd1, hP1, hP2⟩ := SI'
  have hN17 := nd_le (u := d) (by omega) (show d < 10 ^ 17 by omega)
  have hN1 := nDigits_pos d
  have hsd : 1 ≤ (dsOf d).length ∧ (dsOf d).length ≤ 17 := by
    unfold dsOf
    rw [dls_len]
    obtain ⟨k, e, _⟩ := strip_spec d hd0
    have h0 : 0 < strip d := by
      rcases Nat.eq_zero_or_pos (strip d) with g | g
      · rw [g, Nat.zero_mul] at e; omega
      · exact g
    have := nd_mul (strip d) k h0
    rw [← e] at this
    have := nDigits_pos (strip d)
    omega
  have ND := Aside0.mk (fun W ht => Tryz.internal_strconv_numDigits d (by omega) (by omega) W ht)
  have ST := Aside0.mk (fun W b hH hlt => set_any W b d P hd0 (show d < 10 ^ 17 by omega) (by omega) (by omega) hH hlt)
  have EF := Aside0.mk (fun w' v b hB => efg_any w0 w' v b neg (dsOf d) ((nDigits d : Int) + P) hsd.1 hsd.2 (by omega) (by omega) hB)
  obtain ⟨n, hn⟩ : ∃ n : Int, (nDigits d : Int) = n := ⟨_, rfl⟩
  obtain ⟨k, hk⟩ : ∃ k : Int, ((dsOf d).length : Int) = k := ⟨_, rfl⟩
  rw [hn, hk] at EF
  rw [hn]
  rw [hn] at ST ND
  rw [hk] at ST
  have HNN := Aside0.mk hN17
  clear hB hown ht hm hd0 hd1 hN17 hN1 hsd hL hz1 hz2 hbl hM hM2
  go_enter Tryz.func32, Tryz.ntmps32
  go_wp2
  go_region
  go_wp2_with (go_at_call 43; with_reducible refine (LN.out _).mono ?_; rintro e w' ⟨rfl, rfl⟩)
  have hb01 : Below w.heap.size w ((w.alloc (.cells zeros32 69)).drew) := ((Below.refl _ _).alloc (Nat.le_refl _) _).drew
  have hqz : (-1022 : Int) - (z : Int) - 52 = -1074 - (z : Int) := by omega
  rw [hqz]
  refine (SH.out ((w.alloc (.cells zeros32 69)).drew) (HT.out.below hb01).ten).mono ?_
  rintro e w2 ⟨rfl, hb2⟩
  have hbuf : w2.heap[w.heap.size]? = some (.cells zeros32 69) := by
    rw [hb2.block w.heap.size (by simp)]
    exact heap_alloc_new w _
  have HBUF := Aside0.mk hbuf
  have HT2 := Aside0.mk ((HT.out.below hb01).below hb2)
  have HB2 := Aside0.mk (hb01.trans (hb2.mono hb01.size))
  have hsz2 : w.heap.size < w2.heap.size := by
    have := hb2.size
    simp at this
    omega
  clear hb01 hb2 hbuf
  have hsl := fun W => sl32 ⟨w.heap.size, 0, none⟩ W
  go_wp2
  go_region_with (first
    | (go_at_call 46; refine (ND.out _ (HT2.out.below ((Below.refl _ _).drew)).dig).mono ?_; rintro e w3 ⟨rfl, rfl⟩)
    | (go_at_call 45; refine (ST.out w2.drew w.heap.size (holds32 w2.drew w.heap.size 69 _ (by have := HNN.out; omega) HBUF.out) hsz2).mono ?_; rintro e w3 ⟨rfl, hb3, hc3⟩; have HB3 := Aside0.mk hb3; have HC3 := Aside0.mk hc3; clear hb3 hc3))
  have HSL := Aside0.mk hsl
  clear hsl
  have hb4 : Below w.heap.size w w3 := (HB2.out.drew).trans HB3.out
  have hb5 : Below w0.heap.size w0 w3 := HB.out.trans (hb4.mono HB.out.size)
  have ho5 := own_move HO.out (fun g hg => hb4.block g hg)
  have hlt3 : w.heap.size < w3.heap.size := Nat.lt_of_lt_of_le hsz2 HB3.out.size
  have HBF := Aside0.mk (show Buf w0 w3 (.slice A 0 c) [] w.heap.size (dsOf d) from ⟨ho5, hb5, own_ne_new HO.out, HC3.out, hlt3⟩)
  clear hb4 hb5 ho5
  have hsl := HSL.out
  go_wp2_with (go_at_call 42; refine (EF.out w3 _ w.heap.size HBF.out).mono ?_; rintro e w6 ⟨v, rfl, hb6⟩)
  go_ret
  exact ⟨v, rfl, hb6.own, hb6.bel⟩

set_option maxHeartbeats 8000000 in
set_option maxRecDepth 100000 in
theorem ft_nrm (w0 w : World) (A : Option Addr) (c : Nat) (x M z : Nat) (neg : Bool) (X S Y E F : Int) (hX : (x : Int) = X) (hX0 : 0 ≤ X) (s1 : X / 9223372036854775808 = S) (s1n : (S != 0) = neg) (hS : 0 ≤ S) (hS1 : S ≤ 1) (s2 : X / 4503599627370496 = Y) (hY : 0 ≤ Y) (hY1 : Y ≤ 4095)
    (a1 : bits .and .i64 Y 2047 = E) (a2 : bits .and .u64 X 4503599627370495 = F) (hE0 : E ≠ 0) (hE2 : 1 ≤ E) (hE1 : E ≤ 2046) (a3 : bits .or .u64 F 4503599627370496 = (M : Int))
    (hM : 0 < M) (hM2 : M < 9007199254740992) (hM52 : 4503599627370496 ≤ M) (hz1 : 9223372036854775808 ≤ M * 2 ^ z) (hz2 : M * 2 ^ z < 18446744073709551616) (hz63 : z ≤ 63) (hbl : Lib.bitLen M = 64 - z)
    (hB : Below w0.heap.size w0 w) (hown : w.ownsRow w0.heap.size 5 1 (.slice A 0 c) 0 (nums .u8 [])) (ht : Tabs w) :
    Calls Tryz.prog 32 #[.slice A 0 c, .float .f64 x, .int .u8 103, .int .i64 (-1)] w (FtRes w0 (numTx neg M (E - 1075) z)) := by
  have HB := Aside0.mk hB
  have HO := Aside0.mk hown
  have h39 : ∀ W, (callFunc 39 #[.float .f64 x]).run Tryz.prog W = .ok (.value (.int .u64 X)) W := fun W => hX ▸ f39 x W
  have e1 : (E == 0) = false := beq_eq_false_iff_ne.2 hE0
  have e2 : (E == 2047) = false := beq_eq_false_iff_ne.2 (by omega)
  have HT := Aside0.mk ht
  have SI := short_in M (E - 1075) hM hM2 (by have := Y; omega) (by omega) (.inl hM52) z hz1 hz2
  have LN := Aside0.mk (fun W => Tryz.bits_Len64 (M : Int) W (by omega) (by omega))
  have SH := Aside0.mk (fun W ht => short_any M (E - 1075) hM hM2 (by omega) (by omega) (.inl hM52) z hz1 hz2 W ht)
  unfold numTx
  unfold ShortRes at SH
  have SI' : 0 < (srt M (E - 1075) z).1 ∧ (srt M (E - 1075) z).1 < 100000000000000000 ∧ -324 ≤ (srt M (E - 1075) z).2 ∧ (srt M (E - 1075) z).2 ≤ 308 := SI.2
  obtain ⟨m, hm⟩ : ∃ m, M * 2 ^ z = m := ⟨_, rfl⟩
  have hsh : IntKind.u64.wrap ((M : Int) * 2 ^ z) = (m : Int) := by
    have e : (M : Int) * 2 ^ z = ((M * 2 ^ z : Nat) : Int) := by simp
    rw [e, hm]
    exact wrap_u _ (by omega) (by omega)
  rw [hm] at SH hz1 hz2
  have hq : (srt M (E - 1075) z) = ((srt M (E - 1075) z).1, (srt M (E - 1075) z).2) := rfl
  generalize (srt M (E - 1075) z).1 = d at *
  generalize (srt M (E - 1075) z).2 = P at *
  clear hq SI
  have hL : ((Lib.bitLen ((M : Int).toNat) : Nat) : Int) = 64 - (z : Int) := by rw [Int.toNat_natCast, hbl]; omega
  rw [hL] at LN
  have hzz : (64 : Int) - (64 - (z : Int)) = (z : Int) := by omega
  have hM0 : ((M : Int) == 0) = false := beq_eq_false_iff_ne.2 (by omega)
  obtain ⟨hd0, hd1, hP1, hP2⟩ := SI'
  have hN17 := nd_le (u := d) (by omega) (show d < 10 ^ 17 by omega)
  have hN1 := nDigits_pos d
  have hsd : 1 ≤ (dsOf d).length ∧ (dsOf d).length ≤ 17 := by
    unfold dsOf
    rw [dls_len]
    obtain ⟨k, e, _⟩ := strip_spec d hd0
    have h0 : 0 < strip d := by
      rcases Nat.eq_zero_or_pos (strip d) with g | g
      · rw [g, Nat.zero_mul] at e; omega
      · exact g
    have := nd_mul (strip d) k h0
    rw [← e] at this
    have := nDigits_pos (strip d)
    omega
  have ND := Aside0.mk (fun W ht => Tryz.internal_strconv_numDigits d (by omega) (by omega) W ht)
  have ST := Aside0.mk (fun W b hH hlt => set_any W b d P hd0 (show d < 10 ^ 17 by omega) (by omega) (by omega) hH hlt)
  have EF := Aside0.mk (fun w' v b hB => efg_any w0 w' v b neg (dsOf d) ((nDigits d : Int) + P) hsd.1 hsd.2 (by omega) (by omega) hB)
  obtain ⟨n, hn⟩ : ∃ n : Int, (nDigits d : Int) = n := ⟨_, rfl⟩
  obtain ⟨k, hk⟩ : ∃ k : Int, ((dsOf d).length : Int) = k := ⟨_, rfl⟩
  rw [hn, hk] at EF
  rw [hn]
  rw [hn] at ST ND
  rw [hk] at ST
  have HNN := Aside0.mk hN17
  clear hB hown ht hm hd0 hd1 hN17 hN1 hsd hL hz1 hz2 hbl hM hM2
  go_enter Tryz.func32, Tryz.ntmps32
  go_wp2
  go_region
  go_wp2_with (go_at_call 43; with_reducible refine (LN.out _).mono ?_; rintro e w' ⟨rfl, rfl⟩)
  have hb01 : Below w.heap.size w ((w.alloc (.cells zeros32 69)).drew) := ((Below.refl _ _).alloc (Nat.le_refl _) _).drew
  have hqz : E + -1023 - (z : Int) - 52 = E - 1075 - (z : Int) := by omega
  rw [hqz]
  refine (SH.out ((w.alloc (.cells zeros32 69)).drew) (HT.out.below hb01).ten).mono ?_
  rintro e w2 ⟨rfl, hb2⟩
  have hbuf : w2.heap[w.heap.size]? = some (.cells zeros32 69) := by
    rw [hb2.block w.heap.size (by simp)]
    exact heap_alloc_new w _
  have HBUF := Aside0.mk hbuf
  have HT2 := Aside0.mk ((HT.out.below hb01).below hb2)
  have HB2 := Aside0.mk (hb01.trans (hb2.mono hb01.size))
  have hsz2 : w.heap.size < w2.heap.size := by
    have := hb2.size
    simp at this
    omega
  clear hb01 hb2 hbuf
  have hsl := fun W => sl32 ⟨w.heap.size, 0, none⟩ W
  go_wp2
  go_region_with (first
    | (go_at_call 46; refine (ND.out _ (HT2.out.below ((Below.refl _ _).drew)).dig).mono ?_; rintro e w3 ⟨rfl, rfl⟩)
    | (go_at_call 45; refine (ST.out w2.drew w.heap.size (holds32 w2.drew w.heap.size 69 _ (by have := HNN.out; omega) HBUF.out) hsz2).mono ?_; rintro e w3 ⟨rfl, hb3, hc3⟩; have HB3 := Aside0.mk hb3; have HC3 := Aside0.mk hc3; clear hb3 hc3))
  have HSL := Aside0.mk hsl
  clear hsl
  have hb4 : Below w.heap.size w w3 := (HB2.out.drew).trans HB3.out
  have hb5 : Below w0.heap.size w0 w3 := HB.out.trans (hb4.mono HB.out.size)
  have ho5 := own_move HO.out (fun g hg => hb4.block g hg)
  have hlt3 : w.heap.size < w3.heap.size := Nat.lt_of_lt_of_le hsz2 HB3.out.size
  have HBF := Aside0.mk (show Buf w0 w3 (.slice A 0 c) [] w.heap.size (dsOf d) from ⟨ho5, hb5, own_ne_new HO.out, HC3.out, hlt3⟩)
  clear hb4 hb5 ho5
  have hsl := HSL.out
  go_wp2_with (go_at_call 42; refine (EF.out w3 _ w.heap.size HBF.out).mono ?_; rintro e w6 ⟨v, rfl, hb6⟩)
  go_ret
  exact ⟨v, rfl, hb6.own, hb6.bel⟩

set_option maxHeartbeats 8000000 in
set_option maxRecDepth 100000 in
theorem ft_0 (w0 w : World) (A : Option Addr) (c : Nat) (x M z : Nat) (neg : Bool) (X S Y E F : Int) (hX : (x : Int) = X) (hX0 : 0 ≤ X) (s1 : X / 9223372036854775808 = S) (s1n : (S != 0) = neg) (hS : 0 ≤ S) (hS1 : S ≤ 1) (s2 : X / 4503599627370496 = Y) (hY : 0 ≤ Y) (hY1 : Y ≤ 4095)
    (a1 : bits .and .i64 Y 2047 = E) (a2 : bits .and .u64 X 4503599627370495 = F) (hE0 : E = 0) (hF : F = (M : Int))
    (hM : M = 0) (hB : Below w0.heap.size w0 w) (hown : w.ownsRow w0.heap.size 5 1 (.slice A 0 c) 0 (nums .u8 [])) (b : Nat) (hb : b < w.heap.size) (hne : (Value.slice A 0 c).ownBlock ≠ some b) :
    Calls Tryz.prog 32 #[.slice A 0 c, .float .f64 x, .int .u8 103, .int .i64 (-1)] w (FtRes w0 (tx neg [] 0)) := by
  subst hM
  have HE := Aside0.mk (efg_0 w0 w.drew (.slice A 0 c) b neg ⟨own_move hown (fun g hg => rfl), hB.drew, hne, fun j h => by simp at h, hb⟩)
  have HB := Aside0.mk hB
  have HO := Aside0.mk hown
  have h39 : ∀ W, (callFunc 39 #[.float .f64 x]).run Tryz.prog W = .ok (.value (.int .u64 X)) W := fun W => hX ▸ f39 x W
  subst hE0 hF
  clear hB hown
  go_enter Tryz.func32, Tryz.ntmps32
  go_wp2
  go_region
  go_wp2_with fail
  refine (HE.out).mono ?_
  rintro e w' ⟨v, rfl, hb⟩
  go_wp2
  go_ret
  exact ⟨_, rfl, hb.own, hb.bel⟩
end Go.Proofs.YtjniglmijikojaaGreatDoor.Text
namespace Go.Proofs.YtjniglmijikojaaGreatDoor.Text
set_option linter.unusedSimpArgs false
set_option linter.unusedVariables false
open Go.RowKit Go.Lib Go.Sort Go.Proofs.YtjniglmijikojaaGreatDoor.Own Go.Proofs.YtjniglmijikojaaGreatDoor.Real Go.Proofs.YtjniglmijikojaaGreatDoorW.PrintWords

/-- The exponent's bits, the bits that follow. -/
def eOf (x : Nat) : Nat := x / 4503599627370496 % 2048
def fOf (x : Nat) : Nat := x % 4503599627370496
/-- What is written of a finite number. -/
def numL (x : Nat) : List Int :=
  if eOf x = 0 then (if fOf x = 0 then tx (sg x) [] 0 else numTx (sg x) (fOf x) (-1074) (64 - Lib.bitLen (fOf x)))
  else numTx (sg x) (fOf x + 4503599627370496) ((eOf x : Int) - 1075) 11
/-- What is written of any number. -/
def textL (x : Nat) : List Int := if nan x then [110, 97, 110] else if ninf x then [45, 105, 110, 102] else if pinf x then [105, 110, 102] else numL x
def textB (x : Nat) : ByteArray := strOfNums (textL x)

theorem and_i (a : Nat) (ha : a < 4096) : bits .and .i64 (a : Int) 2047 = ((a % 2048 : Nat) : Int) := by
  have h := (bits_nat .i64 12 (by decide) (fun n h0 h1 => by rw [IntKind.wrap_i64]; omega) a 2047 (by omega) (by omega)).1
  have e : a &&& 2047 = a % 2048 := Nat.and_two_pow_sub_one_eq_mod a 11
  rw [e] at h
  exact h
theorem and_52 (a : Nat) (ha : a < 18446744073709551616) : bits .and .u64 (a : Int) 4503599627370495 = ((a % 4503599627370496 : Nat) : Int) := by
  have h := and_u a 4503599627370495 ha (by omega)
  have e : a &&& 4503599627370495 = a % 4503599627370496 := Nat.and_two_pow_sub_one_eq_mod a 52
  rw [e] at h
  exact h
theorem or_52 (f : Nat) (hf : f < 4503599627370496) : bits .or .u64 (f : Int) 4503599627370496 = ((f + 4503599627370496 : Nat) : Int) := by
  have h := (bits_nat .u64 64 (by decide) (fun n h0 h1 => by rw [IntKind.wrap_u64]; omega) f 4503599627370496 (by omega) (by omega)).2
  have e : f ||| 4503599627370496 = f + 4503599627370496 := by
    apply nat_or_add
    rw [bit52, if_neg (by omega)]
  rw [e] at h
  exact h
theorem sg_bit (x : Nat) (hx : x < 18446744073709551616) : (((x / 9223372036854775808 : Nat) : Int) != 0) = sg x := by
  unfold sg
  by_cases h : 9223372036854775808 ≤ x
  · rw [decide_eq_true h]
    exact bne_iff_ne.2 (by omega)
  · rw [decide_eq_false h]
    exact bne_eq_false_iff_eq.2 (by omega)

theorem ftoa_any (w0 w : World) (A : Option Addr) (c : Nat) (x : Nat) (hx : x < 18446744073709551616) (hf : eOf x ≤ 2046) (b : Nat) (hb : b < w.heap.size) (hne : (Value.slice A 0 c).ownBlock ≠ some b)
    (hB : Below w0.heap.size w0 w) (hown : w.ownsRow w0.heap.size 5 1 (.slice A 0 c) 0 (nums .u8 [])) (ht : Tabs w) :
    Calls Tryz.prog 32 #[.slice A 0 c, .float .f64 x, .int .u8 103, .int .i64 (-1)] w (FtRes w0 (numL x)) := by
  have s1 : (x : Int) / 9223372036854775808 = ((x / 9223372036854775808 : Nat) : Int) := rfl
  have s2 : (x : Int) / 4503599627370496 = ((x / 4503599627370496 : Nat) : Int) := rfl
  have a1 : bits .and .i64 ((x / 4503599627370496 : Nat) : Int) 2047 = ((eOf x : Nat) : Int) := and_i _ (by omega)
  have a2 : bits .and .u64 (x : Int) 4503599627370495 = ((fOf x : Nat) : Int) := and_52 x hx
  have hF : fOf x < 4503599627370496 := Nat.mod_lt _ (by decide)
  have sn := sg_bit x hx
  have h1 : ((x / 9223372036854775808 : Nat) : Int) ≤ 1 := by omega
  have h2 : ((x / 4503599627370496 : Nat) : Int) ≤ 4095 := by omega
  unfold numL
  generalize x / 9223372036854775808 = S at *
  generalize x / 4503599627370496 = Y at *
  generalize eOf x = E at *
  generalize fOf x = F at *
  generalize sg x = neg at *
  by_cases hE : E = 0
  · rw [if_pos hE]
    subst hE
    by_cases h0 : F = 0
    · rw [if_pos h0]
      subst h0
      exact ft_0 w0 w A c x 0 0 neg _ _ _ _ _ rfl (by omega) s1 sn (by omega) h1 s2 (by omega) h2 a1 a2 rfl rfl rfl hB hown b hb hne
    · rw [if_neg h0]
      obtain ⟨b1, b2, b3, b4⟩ := bitLen_spec (x := F) (by omega) (by omega)
      have hle := b4
      obtain ⟨k1, k2, _⟩ := x_shift b3 b4 b1 b2
      exact ft_sub w0 w A c x F (64 - Lib.bitLen F) neg _ _ _ _ _ rfl (by omega) s1 sn (by omega) h1 s2 (by omega) h2 a1 a2 rfl rfl (by omega) (by omega) k2 k1 (by omega) (by omega) hB hown ht
  · rw [if_neg hE]
    have hbl : Lib.bitLen (F + 4503599627370496) = 53 := bitLen_eq' (by decide) (by omega) (by omega) (by omega)
    exact ft_nrm w0 w A c x (F + 4503599627370496) 11 neg _ _ _ (E : Int) (F : Int) rfl (by omega) s1 sn (by omega) h1 s2 (by omega) h2 a1 a2 (by omega) (by omega) (by omega) (or_52 F hF) (by omega) (by omega) (by omega)
      (by omega) (by omega) (by decide) (by rw [hbl]) hB hown ht

set_option maxHeartbeats 4000000 in
theorem format_any (w : World) (x : Nat) (hx : x < 18446744073709551616) (hf : eOf x ≤ 2046) (ht : Tabs w) :
    Calls Tryz.prog 22 #[.float .f64 x, .int .u8 103, .int .i64 (-1), .int .i64 64] w fun e w' => e = .returned (.string (strOfNums (numL x))) ∧ Below w.heap.size w w' := by
  obtain ⟨i5, hi5, hz5⟩ := Option.map_eq_some_iff.1 info5'
  simp only [Prod.mk.injEq] at hz5
  obtain ⟨w1, hrun, hown, hgr⟩ := run_makeSlice_owned (P := Tryz.prog) w w.heap.size 52 5 i5 (.int .u8 0) 1 Tryz.underlying52 hi5 hz5.1 hz5.2.1 .i64 .i64 24 (by decide) (by rw [hz5.2.2]; decide) (by unfold maxLen; decide) (Nat.le_refl _)
  have hmk : (Instr.makeSlice 52 (.int .i64 0) (.int .i64 24)).run Tryz.prog w = .ok (.slice (some ⟨w.heap.size, 0, none⟩) 0 24) w1 := hrun
  have hB1 : Below w.heap.size w w1 := (Below.refl _ _).grown hgr (Nat.le_refl _) (fun k hk => by cases hk)
  have HT := Aside0.mk ht
  have HF := Aside0.mk (ftoa_any w w1 (some ⟨w.heap.size, 0, none⟩) 24 x hx hf 0 (Nat.lt_of_lt_of_le (Nat.lt_of_le_of_lt (Nat.zero_le _) ht.big) hB1.size) (fun e => by have h0 : w.heap.size = 0 := Option.some.inj e; have := ht.big; omega) hB1 hown (ht.below hB1))
  have hm : max (3 : Int) 24 = 24 := rfl
  clear hrun hown hgr hB1 ht hi5 hz5
  generalize numL x = l at *
  go_enter Tryz.func22, Tryz.ntmps22
  go_wp2_with fail
  refine (HF.out).mono ?_
  rintro e w6 ⟨v, rfl, ho6, hb6⟩
  have HO6 := Aside0.mk ho6
  have HB6 := Aside0.mk hb6
  obtain ⟨A6, c6, rfl⟩ := own_slice ho6
  have hcv : (convert 52 9 (.slice A6 l.length c6)).run Tryz.prog w6 = .ok (.string (strOfNums l)) w6 := own_string Tryz.underlying52 Tryz.underlying5 Tryz.underlying9 ho6
  clear ho6 hb6 hmk
  go_wp2
  go_ret
  exact ⟨rfl, HB6.out⟩

theorem format12 (w : World) (x : Nat) (hx : x < 18446744073709551616) (hf : eOf x ≤ 2046) (ht : Tabs w) :
    Calls Tryz.prog 12 #[.float .f64 x, .int .u8 103, .int .i64 (-1), .int .i64 64] w fun e w' => e = .returned (.string (strOfNums (numL x))) ∧ Below w.heap.size w w' := by
  have HF := Aside0.mk (format_any w x hx hf ht)
  clear ht
  generalize strOfNums (numL x) = s at *
  go_enter Tryz.func12, Tryz.ntmps12
  go_wp2_with fail
  refine (HF.out).mono ?_
  rintro e w6 ⟨rfl, hb⟩
  go_wp2
  go_ret
  exact ⟨rfl, hb⟩

theorem str_inf : strOfNums [105, 110, 102] = ⟨#[105, 110, 102]⟩ := by decide +kernel
theorem str_minf : strOfNums [45, 105, 110, 102] = ⟨#[45, 105, 110, 102]⟩ := by decide +kernel
theorem str_nan : strOfNums [110, 97, 110] = ⟨#[110, 97, 110]⟩ := by decide +kernel
theorem text_any (x : Nat) (hx : x < 18446744073709551616) (w : World) (ht : Tabs w) :
    Calls Tryz.prog 5 #[.float .f64 x] w fun e w' => e = .returned (.string (textB x)) ∧ Below w.heap.size w w' := by
  have HK := Aside0.mk (kind_any x hx)
  have HT := Aside0.mk ht
  clear ht
  cases hn : nan x
  · cases hi : ninf x
    · cases hp : pinf x
      · have hf : eOf x ≤ 2046 := by
          unfold eOf
          unfold nan rg at hn
          unfold ninf at hi
          unfold pinf at hp
          have h1 : ¬ 9218868437227405312 < x % 9223372036854775808 := of_decide_eq_false hn
          have h2 : x % 9223372036854775808 ≠ 9218868437227405312 := by
            intro h
            have h' : rg x = 9218868437227405312 := h
            rw [decide_eq_true h'] at hi hp
            cases hs : sg x <;> rw [hs] at hi hp <;> simp at hi hp
          omega
        have e : textB x = strOfNums (numL x) := by
          unfold textB textL
          rw [hn, hi, hp]
          simp only [Bool.false_eq_true, if_false]
        rw [e]
        have HF := Aside0.mk (fun W ht => format12 W x hx hf ht)
        have k0 : (kd x == 0) = false ∧ (kd x == 1) = false ∧ (kd x == 6) = false := by
          unfold kd
          rw [hn, hi, hp]
          cases lt0 x <;> cases eq0 x <;> cases sg x <;> decide
        obtain ⟨k1, k2, k3⟩ := k0
        generalize kd x = k at *
        generalize strOfNums (numL x) = s at *
        clear hn hi hp hf e
        go_enter Tryz.func5, Tryz.ntmps5
        go_wp2_with (first
          | ((go_at_call 11; with_reducible refine (HK.out _).mono ?_); rintro e w' ⟨rfl, rfl⟩)
          | ((go_at_call 12; with_reducible refine (HF.out _ HT.out).mono ?_); rintro e w' ⟨rfl, hb⟩; have HB := Aside0.mk hb; clear hb))
        go_ret
        exact ⟨rfl, HB.out⟩
      · have e : textB x = ⟨#[105, 110, 102]⟩ := by
          unfold textB textL
          rw [hn, hi, hp]
          simp only [Bool.false_eq_true, if_false, if_true]
          exact str_inf
        have k : kd x = 6 := by
          have hs : sg x = false ∧ rg x = 9218868437227405312 := by
            unfold pinf at hp
            exact ⟨by have := (Bool.and_eq_true_iff.1 hp).1; simpa using this, of_decide_eq_true (Bool.and_eq_true_iff.1 hp).2⟩
          have hl : lt0 x = false := by unfold lt0 key; rw [hs.1, hs.2, hn]; decide
          have he : eq0 x = false := by unfold eq0; rw [hs.2]; decide
          unfold kd
          rw [hn, hi, hl, he, hp]
          simp
        rw [e]
        rw [k] at HK
        clear hn hi hp k e
        go_enter Tryz.func5, Tryz.ntmps5
        go_wp2_with ((go_at_call 11; with_reducible refine (HK.out _).mono ?_); rintro e w' ⟨rfl, rfl⟩)
        go_ret
        exact ⟨rfl, Below.refl _ _⟩
    · have e : textB x = ⟨#[45, 105, 110, 102]⟩ := by
        unfold textB textL
        rw [hn, hi]
        simp only [Bool.false_eq_true, if_false, if_true]
        exact str_minf
      have k : kd x = 1 := by
        unfold kd
        rw [hn, hi]
        simp
      rw [e]
      rw [k] at HK
      clear hn hi k e
      go_enter Tryz.func5, Tryz.ntmps5
      go_wp2_with ((go_at_call 11; with_reducible refine (HK.out _).mono ?_); rintro e w' ⟨rfl, rfl⟩)
      go_ret
      exact ⟨rfl, Below.refl _ _⟩
  · have e : textB x = ⟨#[110, 97, 110]⟩ := by
      unfold textB textL
      rw [hn]
      simp only [if_true]
      exact str_nan
    have k : kd x = 0 := by
      unfold kd
      rw [hn]
      simp
    rw [e]
    rw [k] at HK
    clear hn k e
    go_enter Tryz.func5, Tryz.ntmps5
    go_wp2_with ((go_at_call 11; with_reducible refine (HK.out _).mono ?_); rintro e w' ⟨rfl, rfl⟩)
    go_ret
    exact ⟨rfl, Below.refl _ _⟩
end Go.Proofs.YtjniglmijikojaaGreatDoor.Text
