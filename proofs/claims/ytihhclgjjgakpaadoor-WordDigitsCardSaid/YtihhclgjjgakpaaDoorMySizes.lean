/- WordSizes: the walk of the law. The condition: the table of tens is laid. -/
import Derived.Test.YtihhclgjjgakpaaDoorMyGet
namespace Go.Proofs.YtihhclgjjgakpaaDoor.Fmt
open Go.RowKit Go.Lib Go.Proofs.YtihhclgjjgakpaaDoorW.PrintWords Go.Proofs.YtihhclgjjgakpaaDoorW.PrintLast Go.Proofs.YtihhclgjjgakpaaDoorW.PrintMore
open Go.Proofs.YtihhclgjjgakpaaDoor.PWordSizes Go.Proofs.YtihhclgjjgakpaaDoor.Own

theorem digits_at (u : Nat) (x : ByteArray) (hx : x = ⟨(Lib.decDigits u).toArray⟩) (hu64 : u < 18446744073709551616) (w : World) (htab : Lib.TabIs Tryd.prog w "internal/strconv.uint64pow10" .u64 Lib.pow10Tab) :
    Calls Tryd.prog 6 #[.int .u64 u] w fun e w' => e = .returned (.string x) ∧ Below w.heap.size w w' := by
  subst hx; exact digits_any u hu64 w htab

theorem less3 (u v : Nat) (x y : ByteArray) (hx : x = ⟨(Lib.decDigits u).toArray⟩) (hy : y = ⟨(Lib.decDigits v).toArray⟩) :
    (x.size < y.size → u < v) ∧ (x.size = y.size → Op.bytesLess x.toList y.toList = decide (u < v)) ∧ (y.size < x.size → ¬ u < v) := by
  have h := digits_less u v
  have hx1 : x.size = (decDigits u).length := by subst hx; simp [ByteArray.size]
  have hy1 : y.size = (decDigits v).length := by subst hy; simp [ByteArray.size]
  have hx2 : x.toList = decDigits u := by subst hx; rw [ByteArray.toList_mk]
  have hy2 : y.toList = decDigits v := by subst hy; rw [ByteArray.toList_mk]
  rw [← hx1, ← hy1, ← hx2, ← hy2] at h
  refine ⟨fun h1 => ?_, fun h1 => ?_, fun h1 => ?_⟩
  · rw [decide_eq_true h1] at h
    simpa using h.symm
  · rw [decide_eq_false (show ¬ x.size < y.size by omega), decide_eq_true h1] at h
    simpa using h
  · rw [decide_eq_false (show ¬ x.size < y.size by omega), decide_eq_false (show ¬ x.size = y.size by omega)] at h
    intro h2
    rw [decide_eq_true h2] at h
    simp at h

set_option maxHeartbeats 2000000 in
theorem sizes_0 (u v : Nat) (hu : u < 18446744073709551616) (hv : v < 18446744073709551616) (s : Int) (h0 : 0 ≤ s) (h1 : s ≤ 255) (h3 : s % 9 = 0) (w : World) (htab : Lib.TabIs Tryd.prog w "internal/strconv.uint64pow10" .u64 Lib.pow10Tab) :
    Calls Tryd.prog 3 #[.int .u64 u, .int .u64 v, .int .u8 s] w fun e w' => e = .returned (.bool true) ∧ Below w.heap.size w w' := by
  obtain ⟨x, hx⟩ : ∃ x : ByteArray, x = ⟨(Lib.decDigits u).toArray⟩ := ⟨_, rfl⟩
  obtain ⟨y, hy⟩ : ∃ x : ByteArray, x = ⟨(Lib.decDigits v).toArray⟩ := ⟨_, rfl⟩
  obtain ⟨t, ht⟩ : ∃ t, strOfNums (be 0 (u : Int)) = t := ⟨_, rfl⟩
  have htz : t.size = 0 := by rw [← ht, str_size, be_length]
  have HL := Aside0.mk (less3 u v x y hx hy)
  have HX := Aside0.mk hx
  have HY := Aside0.mk hy
  have HS := Aside0.mk ht
  have HT := Aside0.mk htab
  have HF : Aside0 True := Aside0.mk trivial
  clear htab hx hy ht
  go_enter Tryd.func3, Tryd.ntmps3
  go_wp2_with (first
    | (go_at_call 5; refine (awake_any _).mono ?_; rintro e w1 ⟨rfl, hb1⟩; have HB1 := Aside0.mk hb1; clear hb1)
    | (go_at_call 6; refine (digits_at u x HX.out hu _ (Fmt.tab_below HT.out HB1.out)).mono ?_; rintro e w2 ⟨rfl, hb2⟩; have HB2 := Aside0.mk (HB1.out.trans (hb2.mono HB1.out.size)); clear hb2)
    | (go_at_call 6; refine (digits_at v y HY.out hv _ (Fmt.tab_below HT.out HB2.out)).mono ?_; rintro e w3 ⟨rfl, hb3⟩; have HB3 := Aside0.mk (HB2.out.trans (hb3.mono HB2.out.size)); clear hb3)
    | (go_at_call 7; refine (put_at (u : Int) 0 (by omega) t HS.out _).mono ?_; rintro e w4 ⟨rfl, hb4⟩; have HB4 := Aside0.mk (HB3.out.trans (hb4.mono HB3.out.size)); clear hb4)
    | (go_at_call 8; refine (get_none t (by rw [← HS.out, toList_str]; rfl) _).mono ?_; rintro e w5 ⟨rfl, hb5⟩; have HB5 := Aside0.mk (HB4.out.trans (hb5.below.mono HB4.out.size)); clear hb5))
  all_goals
    obtain ⟨L1, L2, L3⟩ := HL.out
    first
      | (go_ret; refine ⟨?_, HB5.out⟩; first | rfl | (rw [HF.out]; rfl))
      | (exfalso
         have h12 : x.size < y.size ∨ x.size = y.size ∨ y.size < x.size := by omega
         rcases h12 with h | h | h
         · have q := L1 h
           simp_all <;> omega
         · have q := L2 h
           simp_all <;> omega
         · have q := L3 h
           simp_all <;> omega)

set_option maxHeartbeats 2000000 in
theorem sizes_1 (u v : Nat) (hu : u < 18446744073709551616) (hv : v < 18446744073709551616) (s : Int) (h0 : 0 ≤ s) (h1 : s ≤ 255) (h3 : s % 9 = 1) (w : World) (htab : Lib.TabIs Tryd.prog w "internal/strconv.uint64pow10" .u64 Lib.pow10Tab) :
    Calls Tryd.prog 3 #[.int .u64 u, .int .u64 v, .int .u8 s] w fun e w' => e = .returned (.bool true) ∧ Below w.heap.size w w' := by
  obtain ⟨x, hx⟩ : ∃ x : ByteArray, x = ⟨(Lib.decDigits u).toArray⟩ := ⟨_, rfl⟩
  obtain ⟨y, hy⟩ : ∃ x : ByteArray, x = ⟨(Lib.decDigits v).toArray⟩ := ⟨_, rfl⟩
  obtain ⟨t, ht⟩ : ∃ t, strOfNums (be 1 (u : Int)) = t := ⟨_, rfl⟩
  have htz : t.size = 1 := by rw [← ht, str_size, be_length]
  have HL := Aside0.mk (less3 u v x y hx hy)
  have HX := Aside0.mk hx
  have HY := Aside0.mk hy
  have HS := Aside0.mk ht
  have HT := Aside0.mk htab
  have HF : Aside0 ((((u : Int) % 256 == (u : Int)) == ((u : Int) / 256 == 0)) = true) := Aside0.mk (by rw [beq_iff_eq, Bool.eq_iff_iff, beq_iff_eq, beq_iff_eq]; omega)
  clear htab hx hy ht
  go_enter Tryd.func3, Tryd.ntmps3
  go_wp2_with (first
    | (go_at_call 5; refine (awake_any _).mono ?_; rintro e w1 ⟨rfl, hb1⟩; have HB1 := Aside0.mk hb1; clear hb1)
    | (go_at_call 6; refine (digits_at u x HX.out hu _ (Fmt.tab_below HT.out HB1.out)).mono ?_; rintro e w2 ⟨rfl, hb2⟩; have HB2 := Aside0.mk (HB1.out.trans (hb2.mono HB1.out.size)); clear hb2)
    | (go_at_call 6; refine (digits_at v y HY.out hv _ (Fmt.tab_below HT.out HB2.out)).mono ?_; rintro e w3 ⟨rfl, hb3⟩; have HB3 := Aside0.mk (HB2.out.trans (hb3.mono HB2.out.size)); clear hb3)
    | (go_at_call 7; refine (put_at (u : Int) 1 (by omega) t HS.out _).mono ?_; rintro e w4 ⟨rfl, hb4⟩; have HB4 := Aside0.mk (HB3.out.trans (hb4.mono HB3.out.size)); clear hb4)
    | (go_at_call 8; refine (get_at (u : Int) 1 (by omega) (by omega) t HS.out _).mono ?_; rintro e w5 ⟨rfl, hb5⟩; have HB5 := Aside0.mk (HB4.out.trans (hb5.below.mono HB4.out.size)); clear hb5))
  all_goals
    obtain ⟨L1, L2, L3⟩ := HL.out
    first
      | (go_ret; refine ⟨?_, HB5.out⟩; first | rfl | (rw [HF.out]; rfl))
      | (exfalso
         have h12 : x.size < y.size ∨ x.size = y.size ∨ y.size < x.size := by omega
         rcases h12 with h | h | h
         · have q := L1 h
           simp_all <;> omega
         · have q := L2 h
           simp_all <;> omega
         · have q := L3 h
           simp_all <;> omega)

set_option maxHeartbeats 2000000 in
theorem sizes_2 (u v : Nat) (hu : u < 18446744073709551616) (hv : v < 18446744073709551616) (s : Int) (h0 : 0 ≤ s) (h1 : s ≤ 255) (h3 : s % 9 = 2) (w : World) (htab : Lib.TabIs Tryd.prog w "internal/strconv.uint64pow10" .u64 Lib.pow10Tab) :
    Calls Tryd.prog 3 #[.int .u64 u, .int .u64 v, .int .u8 s] w fun e w' => e = .returned (.bool true) ∧ Below w.heap.size w w' := by
  obtain ⟨x, hx⟩ : ∃ x : ByteArray, x = ⟨(Lib.decDigits u).toArray⟩ := ⟨_, rfl⟩
  obtain ⟨y, hy⟩ : ∃ x : ByteArray, x = ⟨(Lib.decDigits v).toArray⟩ := ⟨_, rfl⟩
  obtain ⟨t, ht⟩ : ∃ t, strOfNums (be 2 (u : Int)) = t := ⟨_, rfl⟩
  have htz : t.size = 2 := by rw [← ht, str_size, be_length]
  have HL := Aside0.mk (less3 u v x y hx hy)
  have HX := Aside0.mk hx
  have HY := Aside0.mk hy
  have HS := Aside0.mk ht
  have HT := Aside0.mk htab
  have HF : Aside0 ((((u : Int) % 65536 == (u : Int)) == ((u : Int) / 65536 == 0)) = true) := Aside0.mk (by rw [beq_iff_eq, Bool.eq_iff_iff, beq_iff_eq, beq_iff_eq]; omega)
  clear htab hx hy ht
  go_enter Tryd.func3, Tryd.ntmps3
  go_wp2_with (first
    | (go_at_call 5; refine (awake_any _).mono ?_; rintro e w1 ⟨rfl, hb1⟩; have HB1 := Aside0.mk hb1; clear hb1)
    | (go_at_call 6; refine (digits_at u x HX.out hu _ (Fmt.tab_below HT.out HB1.out)).mono ?_; rintro e w2 ⟨rfl, hb2⟩; have HB2 := Aside0.mk (HB1.out.trans (hb2.mono HB1.out.size)); clear hb2)
    | (go_at_call 6; refine (digits_at v y HY.out hv _ (Fmt.tab_below HT.out HB2.out)).mono ?_; rintro e w3 ⟨rfl, hb3⟩; have HB3 := Aside0.mk (HB2.out.trans (hb3.mono HB2.out.size)); clear hb3)
    | (go_at_call 7; refine (put_at (u : Int) 2 (by omega) t HS.out _).mono ?_; rintro e w4 ⟨rfl, hb4⟩; have HB4 := Aside0.mk (HB3.out.trans (hb4.mono HB3.out.size)); clear hb4)
    | (go_at_call 8; refine (get_at (u : Int) 2 (by omega) (by omega) t HS.out _).mono ?_; rintro e w5 ⟨rfl, hb5⟩; have HB5 := Aside0.mk (HB4.out.trans (hb5.below.mono HB4.out.size)); clear hb5))
  all_goals
    obtain ⟨L1, L2, L3⟩ := HL.out
    first
      | (go_ret; refine ⟨?_, HB5.out⟩; first | rfl | (rw [HF.out]; rfl))
      | (exfalso
         have h12 : x.size < y.size ∨ x.size = y.size ∨ y.size < x.size := by omega
         rcases h12 with h | h | h
         · have q := L1 h
           simp_all <;> omega
         · have q := L2 h
           simp_all <;> omega
         · have q := L3 h
           simp_all <;> omega)

set_option maxHeartbeats 2000000 in
theorem sizes_3 (u v : Nat) (hu : u < 18446744073709551616) (hv : v < 18446744073709551616) (s : Int) (h0 : 0 ≤ s) (h1 : s ≤ 255) (h3 : s % 9 = 3) (w : World) (htab : Lib.TabIs Tryd.prog w "internal/strconv.uint64pow10" .u64 Lib.pow10Tab) :
    Calls Tryd.prog 3 #[.int .u64 u, .int .u64 v, .int .u8 s] w fun e w' => e = .returned (.bool true) ∧ Below w.heap.size w w' := by
  obtain ⟨x, hx⟩ : ∃ x : ByteArray, x = ⟨(Lib.decDigits u).toArray⟩ := ⟨_, rfl⟩
  obtain ⟨y, hy⟩ : ∃ x : ByteArray, x = ⟨(Lib.decDigits v).toArray⟩ := ⟨_, rfl⟩
  obtain ⟨t, ht⟩ : ∃ t, strOfNums (be 3 (u : Int)) = t := ⟨_, rfl⟩
  have htz : t.size = 3 := by rw [← ht, str_size, be_length]
  have HL := Aside0.mk (less3 u v x y hx hy)
  have HX := Aside0.mk hx
  have HY := Aside0.mk hy
  have HS := Aside0.mk ht
  have HT := Aside0.mk htab
  have HF : Aside0 ((((u : Int) % 16777216 == (u : Int)) == ((u : Int) / 16777216 == 0)) = true) := Aside0.mk (by rw [beq_iff_eq, Bool.eq_iff_iff, beq_iff_eq, beq_iff_eq]; omega)
  clear htab hx hy ht
  go_enter Tryd.func3, Tryd.ntmps3
  go_wp2_with (first
    | (go_at_call 5; refine (awake_any _).mono ?_; rintro e w1 ⟨rfl, hb1⟩; have HB1 := Aside0.mk hb1; clear hb1)
    | (go_at_call 6; refine (digits_at u x HX.out hu _ (Fmt.tab_below HT.out HB1.out)).mono ?_; rintro e w2 ⟨rfl, hb2⟩; have HB2 := Aside0.mk (HB1.out.trans (hb2.mono HB1.out.size)); clear hb2)
    | (go_at_call 6; refine (digits_at v y HY.out hv _ (Fmt.tab_below HT.out HB2.out)).mono ?_; rintro e w3 ⟨rfl, hb3⟩; have HB3 := Aside0.mk (HB2.out.trans (hb3.mono HB2.out.size)); clear hb3)
    | (go_at_call 7; refine (put_at (u : Int) 3 (by omega) t HS.out _).mono ?_; rintro e w4 ⟨rfl, hb4⟩; have HB4 := Aside0.mk (HB3.out.trans (hb4.mono HB3.out.size)); clear hb4)
    | (go_at_call 8; refine (get_at (u : Int) 3 (by omega) (by omega) t HS.out _).mono ?_; rintro e w5 ⟨rfl, hb5⟩; have HB5 := Aside0.mk (HB4.out.trans (hb5.below.mono HB4.out.size)); clear hb5))
  all_goals
    obtain ⟨L1, L2, L3⟩ := HL.out
    first
      | (go_ret; refine ⟨?_, HB5.out⟩; first | rfl | (rw [HF.out]; rfl))
      | (exfalso
         have h12 : x.size < y.size ∨ x.size = y.size ∨ y.size < x.size := by omega
         rcases h12 with h | h | h
         · have q := L1 h
           simp_all <;> omega
         · have q := L2 h
           simp_all <;> omega
         · have q := L3 h
           simp_all <;> omega)

set_option maxHeartbeats 2000000 in
theorem sizes_4 (u v : Nat) (hu : u < 18446744073709551616) (hv : v < 18446744073709551616) (s : Int) (h0 : 0 ≤ s) (h1 : s ≤ 255) (h3 : s % 9 = 4) (w : World) (htab : Lib.TabIs Tryd.prog w "internal/strconv.uint64pow10" .u64 Lib.pow10Tab) :
    Calls Tryd.prog 3 #[.int .u64 u, .int .u64 v, .int .u8 s] w fun e w' => e = .returned (.bool true) ∧ Below w.heap.size w w' := by
  obtain ⟨x, hx⟩ : ∃ x : ByteArray, x = ⟨(Lib.decDigits u).toArray⟩ := ⟨_, rfl⟩
  obtain ⟨y, hy⟩ : ∃ x : ByteArray, x = ⟨(Lib.decDigits v).toArray⟩ := ⟨_, rfl⟩
  obtain ⟨t, ht⟩ : ∃ t, strOfNums (be 4 (u : Int)) = t := ⟨_, rfl⟩
  have htz : t.size = 4 := by rw [← ht, str_size, be_length]
  have HL := Aside0.mk (less3 u v x y hx hy)
  have HX := Aside0.mk hx
  have HY := Aside0.mk hy
  have HS := Aside0.mk ht
  have HT := Aside0.mk htab
  have HF : Aside0 ((((u : Int) % 4294967296 == (u : Int)) == ((u : Int) / 4294967296 == 0)) = true) := Aside0.mk (by rw [beq_iff_eq, Bool.eq_iff_iff, beq_iff_eq, beq_iff_eq]; omega)
  clear htab hx hy ht
  go_enter Tryd.func3, Tryd.ntmps3
  go_wp2_with (first
    | (go_at_call 5; refine (awake_any _).mono ?_; rintro e w1 ⟨rfl, hb1⟩; have HB1 := Aside0.mk hb1; clear hb1)
    | (go_at_call 6; refine (digits_at u x HX.out hu _ (Fmt.tab_below HT.out HB1.out)).mono ?_; rintro e w2 ⟨rfl, hb2⟩; have HB2 := Aside0.mk (HB1.out.trans (hb2.mono HB1.out.size)); clear hb2)
    | (go_at_call 6; refine (digits_at v y HY.out hv _ (Fmt.tab_below HT.out HB2.out)).mono ?_; rintro e w3 ⟨rfl, hb3⟩; have HB3 := Aside0.mk (HB2.out.trans (hb3.mono HB2.out.size)); clear hb3)
    | (go_at_call 7; refine (put_at (u : Int) 4 (by omega) t HS.out _).mono ?_; rintro e w4 ⟨rfl, hb4⟩; have HB4 := Aside0.mk (HB3.out.trans (hb4.mono HB3.out.size)); clear hb4)
    | (go_at_call 8; refine (get_at (u : Int) 4 (by omega) (by omega) t HS.out _).mono ?_; rintro e w5 ⟨rfl, hb5⟩; have HB5 := Aside0.mk (HB4.out.trans (hb5.below.mono HB4.out.size)); clear hb5))
  all_goals
    obtain ⟨L1, L2, L3⟩ := HL.out
    first
      | (go_ret; refine ⟨?_, HB5.out⟩; first | rfl | (rw [HF.out]; rfl))
      | (exfalso
         have h12 : x.size < y.size ∨ x.size = y.size ∨ y.size < x.size := by omega
         rcases h12 with h | h | h
         · have q := L1 h
           simp_all <;> omega
         · have q := L2 h
           simp_all <;> omega
         · have q := L3 h
           simp_all <;> omega)

set_option maxHeartbeats 2000000 in
theorem sizes_5 (u v : Nat) (hu : u < 18446744073709551616) (hv : v < 18446744073709551616) (s : Int) (h0 : 0 ≤ s) (h1 : s ≤ 255) (h3 : s % 9 = 5) (w : World) (htab : Lib.TabIs Tryd.prog w "internal/strconv.uint64pow10" .u64 Lib.pow10Tab) :
    Calls Tryd.prog 3 #[.int .u64 u, .int .u64 v, .int .u8 s] w fun e w' => e = .returned (.bool true) ∧ Below w.heap.size w w' := by
  obtain ⟨x, hx⟩ : ∃ x : ByteArray, x = ⟨(Lib.decDigits u).toArray⟩ := ⟨_, rfl⟩
  obtain ⟨y, hy⟩ : ∃ x : ByteArray, x = ⟨(Lib.decDigits v).toArray⟩ := ⟨_, rfl⟩
  obtain ⟨t, ht⟩ : ∃ t, strOfNums (be 5 (u : Int)) = t := ⟨_, rfl⟩
  have htz : t.size = 5 := by rw [← ht, str_size, be_length]
  have HL := Aside0.mk (less3 u v x y hx hy)
  have HX := Aside0.mk hx
  have HY := Aside0.mk hy
  have HS := Aside0.mk ht
  have HT := Aside0.mk htab
  have HF : Aside0 ((((u : Int) % 1099511627776 == (u : Int)) == ((u : Int) / 1099511627776 == 0)) = true) := Aside0.mk (by rw [beq_iff_eq, Bool.eq_iff_iff, beq_iff_eq, beq_iff_eq]; omega)
  clear htab hx hy ht
  go_enter Tryd.func3, Tryd.ntmps3
  go_wp2_with (first
    | (go_at_call 5; refine (awake_any _).mono ?_; rintro e w1 ⟨rfl, hb1⟩; have HB1 := Aside0.mk hb1; clear hb1)
    | (go_at_call 6; refine (digits_at u x HX.out hu _ (Fmt.tab_below HT.out HB1.out)).mono ?_; rintro e w2 ⟨rfl, hb2⟩; have HB2 := Aside0.mk (HB1.out.trans (hb2.mono HB1.out.size)); clear hb2)
    | (go_at_call 6; refine (digits_at v y HY.out hv _ (Fmt.tab_below HT.out HB2.out)).mono ?_; rintro e w3 ⟨rfl, hb3⟩; have HB3 := Aside0.mk (HB2.out.trans (hb3.mono HB2.out.size)); clear hb3)
    | (go_at_call 7; refine (put_at (u : Int) 5 (by omega) t HS.out _).mono ?_; rintro e w4 ⟨rfl, hb4⟩; have HB4 := Aside0.mk (HB3.out.trans (hb4.mono HB3.out.size)); clear hb4)
    | (go_at_call 8; refine (get_at (u : Int) 5 (by omega) (by omega) t HS.out _).mono ?_; rintro e w5 ⟨rfl, hb5⟩; have HB5 := Aside0.mk (HB4.out.trans (hb5.below.mono HB4.out.size)); clear hb5))
  all_goals
    obtain ⟨L1, L2, L3⟩ := HL.out
    first
      | (go_ret; refine ⟨?_, HB5.out⟩; first | rfl | (rw [HF.out]; rfl))
      | (exfalso
         have h12 : x.size < y.size ∨ x.size = y.size ∨ y.size < x.size := by omega
         rcases h12 with h | h | h
         · have q := L1 h
           simp_all <;> omega
         · have q := L2 h
           simp_all <;> omega
         · have q := L3 h
           simp_all <;> omega)

set_option maxHeartbeats 2000000 in
theorem sizes_6 (u v : Nat) (hu : u < 18446744073709551616) (hv : v < 18446744073709551616) (s : Int) (h0 : 0 ≤ s) (h1 : s ≤ 255) (h3 : s % 9 = 6) (w : World) (htab : Lib.TabIs Tryd.prog w "internal/strconv.uint64pow10" .u64 Lib.pow10Tab) :
    Calls Tryd.prog 3 #[.int .u64 u, .int .u64 v, .int .u8 s] w fun e w' => e = .returned (.bool true) ∧ Below w.heap.size w w' := by
  obtain ⟨x, hx⟩ : ∃ x : ByteArray, x = ⟨(Lib.decDigits u).toArray⟩ := ⟨_, rfl⟩
  obtain ⟨y, hy⟩ : ∃ x : ByteArray, x = ⟨(Lib.decDigits v).toArray⟩ := ⟨_, rfl⟩
  obtain ⟨t, ht⟩ : ∃ t, strOfNums (be 6 (u : Int)) = t := ⟨_, rfl⟩
  have htz : t.size = 6 := by rw [← ht, str_size, be_length]
  have HL := Aside0.mk (less3 u v x y hx hy)
  have HX := Aside0.mk hx
  have HY := Aside0.mk hy
  have HS := Aside0.mk ht
  have HT := Aside0.mk htab
  have HF : Aside0 ((((u : Int) % 281474976710656 == (u : Int)) == ((u : Int) / 281474976710656 == 0)) = true) := Aside0.mk (by rw [beq_iff_eq, Bool.eq_iff_iff, beq_iff_eq, beq_iff_eq]; omega)
  clear htab hx hy ht
  go_enter Tryd.func3, Tryd.ntmps3
  go_wp2_with (first
    | (go_at_call 5; refine (awake_any _).mono ?_; rintro e w1 ⟨rfl, hb1⟩; have HB1 := Aside0.mk hb1; clear hb1)
    | (go_at_call 6; refine (digits_at u x HX.out hu _ (Fmt.tab_below HT.out HB1.out)).mono ?_; rintro e w2 ⟨rfl, hb2⟩; have HB2 := Aside0.mk (HB1.out.trans (hb2.mono HB1.out.size)); clear hb2)
    | (go_at_call 6; refine (digits_at v y HY.out hv _ (Fmt.tab_below HT.out HB2.out)).mono ?_; rintro e w3 ⟨rfl, hb3⟩; have HB3 := Aside0.mk (HB2.out.trans (hb3.mono HB2.out.size)); clear hb3)
    | (go_at_call 7; refine (put_at (u : Int) 6 (by omega) t HS.out _).mono ?_; rintro e w4 ⟨rfl, hb4⟩; have HB4 := Aside0.mk (HB3.out.trans (hb4.mono HB3.out.size)); clear hb4)
    | (go_at_call 8; refine (get_at (u : Int) 6 (by omega) (by omega) t HS.out _).mono ?_; rintro e w5 ⟨rfl, hb5⟩; have HB5 := Aside0.mk (HB4.out.trans (hb5.below.mono HB4.out.size)); clear hb5))
  all_goals
    obtain ⟨L1, L2, L3⟩ := HL.out
    first
      | (go_ret; refine ⟨?_, HB5.out⟩; first | rfl | (rw [HF.out]; rfl))
      | (exfalso
         have h12 : x.size < y.size ∨ x.size = y.size ∨ y.size < x.size := by omega
         rcases h12 with h | h | h
         · have q := L1 h
           simp_all <;> omega
         · have q := L2 h
           simp_all <;> omega
         · have q := L3 h
           simp_all <;> omega)

set_option maxHeartbeats 2000000 in
theorem sizes_7 (u v : Nat) (hu : u < 18446744073709551616) (hv : v < 18446744073709551616) (s : Int) (h0 : 0 ≤ s) (h1 : s ≤ 255) (h3 : s % 9 = 7) (w : World) (htab : Lib.TabIs Tryd.prog w "internal/strconv.uint64pow10" .u64 Lib.pow10Tab) :
    Calls Tryd.prog 3 #[.int .u64 u, .int .u64 v, .int .u8 s] w fun e w' => e = .returned (.bool true) ∧ Below w.heap.size w w' := by
  obtain ⟨x, hx⟩ : ∃ x : ByteArray, x = ⟨(Lib.decDigits u).toArray⟩ := ⟨_, rfl⟩
  obtain ⟨y, hy⟩ : ∃ x : ByteArray, x = ⟨(Lib.decDigits v).toArray⟩ := ⟨_, rfl⟩
  obtain ⟨t, ht⟩ : ∃ t, strOfNums (be 7 (u : Int)) = t := ⟨_, rfl⟩
  have htz : t.size = 7 := by rw [← ht, str_size, be_length]
  have HL := Aside0.mk (less3 u v x y hx hy)
  have HX := Aside0.mk hx
  have HY := Aside0.mk hy
  have HS := Aside0.mk ht
  have HT := Aside0.mk htab
  have HF : Aside0 ((((u : Int) % 72057594037927936 == (u : Int)) == ((u : Int) / 72057594037927936 == 0)) = true) := Aside0.mk (by rw [beq_iff_eq, Bool.eq_iff_iff, beq_iff_eq, beq_iff_eq]; omega)
  clear htab hx hy ht
  go_enter Tryd.func3, Tryd.ntmps3
  go_wp2_with (first
    | (go_at_call 5; refine (awake_any _).mono ?_; rintro e w1 ⟨rfl, hb1⟩; have HB1 := Aside0.mk hb1; clear hb1)
    | (go_at_call 6; refine (digits_at u x HX.out hu _ (Fmt.tab_below HT.out HB1.out)).mono ?_; rintro e w2 ⟨rfl, hb2⟩; have HB2 := Aside0.mk (HB1.out.trans (hb2.mono HB1.out.size)); clear hb2)
    | (go_at_call 6; refine (digits_at v y HY.out hv _ (Fmt.tab_below HT.out HB2.out)).mono ?_; rintro e w3 ⟨rfl, hb3⟩; have HB3 := Aside0.mk (HB2.out.trans (hb3.mono HB2.out.size)); clear hb3)
    | (go_at_call 7; refine (put_at (u : Int) 7 (by omega) t HS.out _).mono ?_; rintro e w4 ⟨rfl, hb4⟩; have HB4 := Aside0.mk (HB3.out.trans (hb4.mono HB3.out.size)); clear hb4)
    | (go_at_call 8; refine (get_at (u : Int) 7 (by omega) (by omega) t HS.out _).mono ?_; rintro e w5 ⟨rfl, hb5⟩; have HB5 := Aside0.mk (HB4.out.trans (hb5.below.mono HB4.out.size)); clear hb5))
  all_goals
    obtain ⟨L1, L2, L3⟩ := HL.out
    first
      | (go_ret; refine ⟨?_, HB5.out⟩; first | rfl | (rw [HF.out]; rfl))
      | (exfalso
         have h12 : x.size < y.size ∨ x.size = y.size ∨ y.size < x.size := by omega
         rcases h12 with h | h | h
         · have q := L1 h
           simp_all <;> omega
         · have q := L2 h
           simp_all <;> omega
         · have q := L3 h
           simp_all <;> omega)

set_option maxHeartbeats 2000000 in
theorem sizes_8 (u v : Nat) (hu : u < 18446744073709551616) (hv : v < 18446744073709551616) (s : Int) (h0 : 0 ≤ s) (h1 : s ≤ 255) (h3 : s % 9 = 8) (w : World) (htab : Lib.TabIs Tryd.prog w "internal/strconv.uint64pow10" .u64 Lib.pow10Tab) :
    Calls Tryd.prog 3 #[.int .u64 u, .int .u64 v, .int .u8 s] w fun e w' => e = .returned (.bool true) ∧ Below w.heap.size w w' := by
  obtain ⟨x, hx⟩ : ∃ x : ByteArray, x = ⟨(Lib.decDigits u).toArray⟩ := ⟨_, rfl⟩
  obtain ⟨y, hy⟩ : ∃ x : ByteArray, x = ⟨(Lib.decDigits v).toArray⟩ := ⟨_, rfl⟩
  obtain ⟨t, ht⟩ : ∃ t, strOfNums (be 8 (u : Int)) = t := ⟨_, rfl⟩
  have htz : t.size = 8 := by rw [← ht, str_size, be_length]
  have HL := Aside0.mk (less3 u v x y hx hy)
  have HX := Aside0.mk hx
  have HY := Aside0.mk hy
  have HS := Aside0.mk ht
  have HT := Aside0.mk htab
  have HF : Aside0 (((u : Int) % 18446744073709551616 == (u : Int)) = true) := Aside0.mk (by rw [beq_iff_eq]; omega)
  clear htab hx hy ht
  go_enter Tryd.func3, Tryd.ntmps3
  go_wp2_with (first
    | (go_at_call 5; refine (awake_any _).mono ?_; rintro e w1 ⟨rfl, hb1⟩; have HB1 := Aside0.mk hb1; clear hb1)
    | (go_at_call 6; refine (digits_at u x HX.out hu _ (Fmt.tab_below HT.out HB1.out)).mono ?_; rintro e w2 ⟨rfl, hb2⟩; have HB2 := Aside0.mk (HB1.out.trans (hb2.mono HB1.out.size)); clear hb2)
    | (go_at_call 6; refine (digits_at v y HY.out hv _ (Fmt.tab_below HT.out HB2.out)).mono ?_; rintro e w3 ⟨rfl, hb3⟩; have HB3 := Aside0.mk (HB2.out.trans (hb3.mono HB2.out.size)); clear hb3)
    | (go_at_call 7; refine (put_at (u : Int) 8 (by omega) t HS.out _).mono ?_; rintro e w4 ⟨rfl, hb4⟩; have HB4 := Aside0.mk (HB3.out.trans (hb4.mono HB3.out.size)); clear hb4)
    | (go_at_call 8; refine (get_at (u : Int) 8 (by omega) (by omega) t HS.out _).mono ?_; rintro e w5 ⟨rfl, hb5⟩; have HB5 := Aside0.mk (HB4.out.trans (hb5.below.mono HB4.out.size)); clear hb5))
  all_goals
    obtain ⟨L1, L2, L3⟩ := HL.out
    first
      | (go_ret; refine ⟨?_, HB5.out⟩; first | rfl | (rw [HF.out]; rfl))
      | (exfalso
         have h12 : x.size < y.size ∨ x.size = y.size ∨ y.size < x.size := by omega
         rcases h12 with h | h | h
         · have q := L1 h
           simp_all <;> omega
         · have q := L2 h
           simp_all <;> omega
         · have q := L3 h
           simp_all <;> omega)

theorem sizes_walk (u v : Nat) (hu : u < 18446744073709551616) (hv : v < 18446744073709551616) (s : Int) (hs : (Lit.int .u8 s).wf = true) (w : World) (htab : Lib.TabIs Tryd.prog w "internal/strconv.uint64pow10" .u64 Lib.pow10Tab) :
    Calls Tryd.prog 3 #[.int .u64 u, .int .u64 v, .int .u8 s] w fun e w' => e = .returned (.bool true) ∧ Below w.heap.size w w' := by
  have h := wfu8 hs
  have h1 : s % 9 = 0 ∨ s % 9 = 1 ∨ s % 9 = 2 ∨ s % 9 = 3 ∨ s % 9 = 4 ∨ s % 9 = 5 ∨ s % 9 = 6 ∨ s % 9 = 7 ∨ s % 9 = 8 := by omega
  rcases h1 with h1 | h1 | h1 | h1 | h1 | h1 | h1 | h1 | h1
  · exact sizes_0 u v hu hv s h.1 (by omega) h1 w htab
  · exact sizes_1 u v hu hv s h.1 (by omega) h1 w htab
  · exact sizes_2 u v hu hv s h.1 (by omega) h1 w htab
  · exact sizes_3 u v hu hv s h.1 (by omega) h1 w htab
  · exact sizes_4 u v hu hv s h.1 (by omega) h1 w htab
  · exact sizes_5 u v hu hv s h.1 (by omega) h1 w htab
  · exact sizes_6 u v hu hv s h.1 (by omega) h1 w htab
  · exact sizes_7 u v hu hv s h.1 (by omega) h1 w htab
  · exact sizes_8 u v hu hv s h.1 (by omega) h1 w htab
end Go.Proofs.YtihhclgjjgakpaaDoor.Fmt
