/- WordDigits: the walk of the law. The conditions: the table of tens is laid; the variable of the range error holds an error. -/
import Derived.Test.YtihhclgjjgakpaaDoorMyUnhex
import Derived.Test.YtihhclgjjgakpaaDoorOwnRef2
import Derived.Test.YtihhclgjjgakpaaDoorMySizes
namespace Go.Proofs.YtihhclgjjgakpaaDoor.Fmt
open Go.RowKit Go.Lib Go.Proofs.YtihhclgjjgakpaaDoorW.PrintWords Go.Proofs.YtihhclgjjgakpaaDoorW.PrintLast Go.Proofs.YtihhclgjjgakpaaDoorW.PrintMore
open Go.Proofs.YtihhclgjjgakpaaDoor.Own Go.Proofs.YtihhclgjjgakpaaDoor.PWordDigits

theorem var_below {w w' : World} {name : String} {z : Array Value} (h : w.var? Tryd.prog name = some z) (hb : Below w.heap.size w w') : w'.var? Tryd.prog name = some z := by
  unfold World.var? at *
  cases hg : Tryd.prog.globalNamed name with
  | none => simp [hg] at h
  | some g =>
    simp only [hg, Option.bind_some] at h ⊢
    have hlt : g < w.heap.size := by
      rcases Nat.lt_or_ge g w.heap.size with h' | h'
      · exact h'
      · rw [Array.getElem?_eq_none h'] at h; simp at h
    rw [hb.block g hlt]
    exact h

theorem bs_data (s : ByteArray) : bs s.data.toList = s := by
  apply ByteArray.ext
  simp [bs]

theorem str_l (l : List UInt8) : strOfNums (l.map fun b => (b.toNat : Int)) = bs l := by
  unfold strOfNums bs
  congr 2
  rw [List.map_map]
  conv => rhs; rw [← List.map_id l]
  apply List.map_congr_left
  intro b _
  simp

theorem dig_size (u : Nat) (h : u < 18446744073709551616) (x : ByteArray) (hx : x = ⟨(decDigits u).toArray⟩) : x.size ≤ 20 ∧ x.data.toList = decDigits u := by
  subst hx
  constructor
  · have hn : nDigits u ≤ 20 := by
      by_cases h1 : 1 ≤ u
      · have := Lib.numDigits_eq u h1 h
        split at this <;> omega
      · obtain rfl : u = 0 := by omega
        rw [nDigits]; simp
    show (decDigits u).toArray.size ≤ 20
    rw [List.size_toArray, decDigits_length]
    exact hn
  · simp

theorem num_at (s : ByteArray) (a c : Int) (h : numS s.data.toList = (a, c)) (hs : s.size ≤ 100) (tp : TypeId) (p : Value) (w : World) (hv : w.var? Tryd.prog "strconv.ErrRange" = some #[.iface tp p]) :
    Calls Tryd.prog 9 #[.string s] w fun e w' => e = .returned (.tuple #[.int .u64 a, .int .i64 c]) ∧ Below w.heap.size w w' := by
  have := number_any s hs tp p w hv
  rw [h] at this
  exact this

theorem ref_num_at (s : ByteArray) (a c : Int) (h : numS s.data.toList = (a, c)) (hs : s.size ≤ 100) (w : World) :
    Calls Tryd.prog 10 #[.string s] w fun e w' => e = .returned (.tuple #[.int .u64 a, .int .i64 c]) ∧ Below w.heap.size w w' := by
  have hf := number_f s.data.toList (by rw [Array.length_toList]; exact hs)
  rw [h, bs_data] at hf
  exact (vagabondref01_Number.calls 300 s a c w hf).mono fun _ _ ⟨h1, h2⟩ => ⟨h1, h2.below⟩

theorem hex_at (s h : ByteArray) (hh : bs (hexL s.data.toList) = h) (hs : s.size ≤ 100) (w : World) :
    Calls Tryd.prog 11 #[.string s] w fun e w' => e = .returned (.string h) ∧ Below w.heap.size w w' := by
  subst hh
  exact hex_any s w (by omega)

theorem ref_hex_at (s h : ByteArray) (hh : bs (hexL s.data.toList) = h) (hs : s.size ≤ 100) (w : World) :
    Calls Tryd.prog 15 #[.string s] w fun e w' => e = .returned (.string h) ∧ Below w.heap.size w w' := by
  have hf := hex_f s.data.toList (by rw [Array.length_toList]; exact hs)
  rw [hh, bs_data] at hf
  exact (vagabondref01_Hex.calls 101 s h w hf).mono fun _ _ ⟨h1, h2⟩ => ⟨h1, h2.below⟩

theorem unhex_at (t r : ByteArray) (xs : List Int) (h : unh t.data.toList = some xs) (hr : strOfNums xs = r) (hs : t.size ≤ 1000) (w : World) :
    Calls Tryd.prog 12 #[.string t] w fun e w' => e = .returned (.tuple #[.string r, .int .i64 0]) ∧ Below w.heap.size w w' := by
  refine (unhex_any t w (by omega)).mono fun e w' ⟨h1, h2⟩ => ⟨?_, h2⟩
  rcases h1 with ⟨ys, h3, h4⟩ | ⟨h3, _⟩
  · rw [h] at h3
    cases h3
    rw [h4, hr]
  · rw [h] at h3; cases h3

theorem unhex_not (t : ByteArray) (h : unh t.data.toList = none) (hs : t.size ≤ 1000) (w : World) :
    Calls Tryd.prog 12 #[.string t] w fun e w' => e = .returned (.tuple #[.string ⟨#[]⟩, .int .i64 4]) ∧ Below w.heap.size w w' := by
  refine (unhex_any t w (by omega)).mono fun e w' ⟨h1, h2⟩ => ⟨?_, h2⟩
  rcases h1 with ⟨ys, h3, _⟩ | ⟨_, h4⟩
  · rw [h] at h3; cases h3
  · exact h4

theorem ref_unhex_at (t r : ByteArray) (xs : List Int) (h : unh t.data.toList = some xs) (hr : strOfNums xs = r) (hs : t.size ≤ 100) (w : World) :
    Calls Tryd.prog 13 #[.string t] w fun e w' => e = .returned (.tuple #[.string r, .bool true]) ∧ Below w.heap.size w w' := by
  have hf := unhex_f t.data.toList (by rw [Array.length_toList]; exact hs)
  rw [h, bs_data] at hf
  simp only [hr] at hf
  exact vagabondref01_Unhex.calls 103 t r true w hf

theorem ref_unhex_not (t : ByteArray) (h : unh t.data.toList = none) (hs : t.size ≤ 100) (w : World) :
    Calls Tryd.prog 13 #[.string t] w fun e w' => e = .returned (.tuple #[.string ⟨#[]⟩, .bool false]) ∧ Below w.heap.size w w' := by
  have hf := unhex_f t.data.toList (by rw [Array.length_toList]; exact hs)
  rw [h, bs_data] at hf
  exact vagabondref01_Unhex.calls 103 t _ false w hf

theorem ref_digits_at (u : Nat) (x : ByteArray) (hx : x = ⟨(decDigits u).toArray⟩) (hu : u < 18446744073709551616) (w : World) :
    Calls Tryd.prog 14 #[.int .u64 u] w fun e w' => e = .returned (.string x) ∧ Below w.heap.size w w' := by
  subst hx
  exact vagabondref01_Digits.calls 25 u _ w (digits_f u hu)

theorem digits_long (u : Nat) (s : ByteArray) (w : World) (h : 100 < s.size) (h1 : s.size ≤ 140737488351232) :
    Calls Tryd.prog 4 #[.int .u64 u, .string s] w fun e w' => e = .returned (.bool true) ∧ Below w.heap.size w w' := by
  go_enter Tryd.func4, Tryd.ntmps4
  go_wp2_with (go_at_call 5; refine (awake_any _).mono ?_; rintro e w1 ⟨rfl, hb1⟩; have HB1 := Aside0.mk hb1; clear hb1)
  go_ret
  exact ⟨rfl, HB1.out⟩

set_option maxHeartbeats 4000000 in
theorem digits_ok_some (u v : Nat) (s : ByteArray) (hu : u < 18446744073709551616) (hv9 : v < 18446744073709551616) (hf : numS s.data.toList = ((v : Int), 0)) (hd : s = ⟨(decDigits v).toArray⟩) (xs : List Int) (r : ByteArray) (hq : unh s.data.toList = some xs) (hr : strOfNums xs = r) (hs : s.size ≤ 100) (w : World) (htab : Lib.TabIs Tryd.prog w "internal/strconv.uint64pow10" .u64 Lib.pow10Tab)
    (tp : TypeId) (p : Value) (hv : w.var? Tryd.prog "strconv.ErrRange" = some #[.iface tp p]) :
    Calls Tryd.prog 4 #[.int .u64 u, .string s] w fun e w' => e = .returned (.bool true) ∧ Below w.heap.size w w' := by
  obtain ⟨x, hx⟩ : ∃ x : ByteArray, x = ⟨(Lib.decDigits u).toArray⟩ := ⟨_, rfl⟩
  obtain ⟨h, hh⟩ : ∃ x : ByteArray, bs (hexL s.data.toList) = x := ⟨_, rfl⟩
  have hxs := dig_size u hu x hx
  have hnx : numS x.data.toList = ((u : Int), 0) := by rw [hxs.2, numS_digits u hu]
  have hxz : x.size ≤ 100 := by omega
  have hhs : h.size ≤ 1000 := by have hq9 : s.data.toList.length = s.size := Array.length_toList; rw [← hh, bs_size, hexL_length, hq9]; omega
  have hhu : unh h.data.toList = some (s.data.toList.map fun b => (b.toNat : Int)) := by rw [← hh]; simp only [bs]; exact unh_hexL _
  have hsu : strOfNums (s.data.toList.map fun b => (b.toNat : Int)) = s := by rw [str_l, bs_data]
  have HX := Aside0.mk hx
  have HNX := Aside0.mk hnx
  have HH := Aside0.mk hh
  have HHU := Aside0.mk hhu
  have HSU := Aside0.mk hsu
  have HT := Aside0.mk htab
  have HV := Aside0.mk hv
  have HF := Aside0.mk hf
  have HD := Aside0.mk hd
  have HQ := Aside0.mk hq
  have HR := Aside0.mk hr
  clear hxs htab hv hx hnx hh hhu hsu hf hd hq hr
  go_enter Tryd.func4, Tryd.ntmps4
  go_wp2_with fail
  refine (awake_any _).mono ?_
  rintro e w1 ⟨rfl, hb1⟩
  have HB1 := Aside0.mk hb1
  clear hb1
  go_wp2_with fail
  refine (digits_at u x HX.out hu _ (Fmt.tab_below HT.out HB1.out)).mono ?_
  rintro e w2 ⟨rfl, hb2⟩
  have HB2 := Aside0.mk (HB1.out.trans (hb2.mono HB1.out.size))
  clear hb2
  go_wp2_with fail
  refine (num_at x u 0 HNX.out hxz tp p _ (var_below HV.out HB2.out)).mono ?_
  rintro e w3 ⟨rfl, hb3⟩
  have HB3 := Aside0.mk (HB2.out.trans (hb3.mono HB2.out.size))
  clear hb3
  go_wp2_with fail
  refine (num_at s v 0 HF.out hs tp p _ (var_below HV.out HB3.out)).mono ?_
  rintro e w4 ⟨rfl, hb4⟩
  have HB4 := Aside0.mk (HB3.out.trans (hb4.mono HB3.out.size))
  clear hb4
  go_wp2_with fail
  refine (ref_num_at s v 0 HF.out hs _).mono ?_
  rintro e w5 ⟨rfl, hb5⟩
  have HB5 := Aside0.mk (HB4.out.trans (hb5.mono HB4.out.size))
  clear hb5
  go_wp2_with fail
  refine (hex_at s h HH.out hs _).mono ?_
  rintro e w6 ⟨rfl, hb6⟩
  have HB6 := Aside0.mk (HB5.out.trans (hb6.mono HB5.out.size))
  clear hb6
  go_wp2_with fail
  refine (unhex_at h s _ HHU.out HSU.out hhs _).mono ?_
  rintro e w7 ⟨rfl, hb7⟩
  have HB7 := Aside0.mk (HB6.out.trans (hb7.mono HB6.out.size))
  clear hb7
  go_wp2_with fail
  refine (unhex_at s r xs HQ.out HR.out (by omega) _).mono ?_
  rintro e w8 ⟨rfl, hb8⟩
  have HB8 := Aside0.mk (HB7.out.trans (hb8.mono HB7.out.size))
  clear hb8
  go_wp2_with fail
  refine (ref_unhex_at s r xs HQ.out HR.out hs _).mono ?_
  rintro e w9 ⟨rfl, hb9⟩
  have HB9 := Aside0.mk (HB8.out.trans (hb9.mono HB8.out.size))
  clear hb9
  go_wp2_with fail
  refine (ref_digits_at u x HX.out hu _).mono ?_
  rintro e wa ⟨rfl, hba⟩
  have HBa := Aside0.mk (HB9.out.trans (hba.mono HB9.out.size))
  clear hba
  go_wp2_with fail
  refine (digits_at v s HD.out hv9 _ (Fmt.tab_below HT.out HBa.out)).mono ?_
  rintro e wb ⟨rfl, hbb⟩
  have HBb := Aside0.mk (HBa.out.trans (hbb.mono HBa.out.size))
  clear hbb
  go_wp2_with fail
  refine (ref_hex_at s h HH.out hs _).mono ?_
  rintro e wc ⟨rfl, hbc⟩
  have HBc := Aside0.mk (HBb.out.trans (hbc.mono HBb.out.size))
  clear hbc
  go_wp2
  go_ret
  exact ⟨rfl, HBc.out⟩

set_option maxHeartbeats 4000000 in
theorem digits_ok_none (u v : Nat) (s : ByteArray) (hu : u < 18446744073709551616) (hv9 : v < 18446744073709551616) (hf : numS s.data.toList = ((v : Int), 0)) (hd : s = ⟨(decDigits v).toArray⟩) (hq : unh s.data.toList = none) (hs : s.size ≤ 100) (w : World) (htab : Lib.TabIs Tryd.prog w "internal/strconv.uint64pow10" .u64 Lib.pow10Tab)
    (tp : TypeId) (p : Value) (hv : w.var? Tryd.prog "strconv.ErrRange" = some #[.iface tp p]) :
    Calls Tryd.prog 4 #[.int .u64 u, .string s] w fun e w' => e = .returned (.bool true) ∧ Below w.heap.size w w' := by
  obtain ⟨x, hx⟩ : ∃ x : ByteArray, x = ⟨(Lib.decDigits u).toArray⟩ := ⟨_, rfl⟩
  obtain ⟨h, hh⟩ : ∃ x : ByteArray, bs (hexL s.data.toList) = x := ⟨_, rfl⟩
  have hxs := dig_size u hu x hx
  have hnx : numS x.data.toList = ((u : Int), 0) := by rw [hxs.2, numS_digits u hu]
  have hxz : x.size ≤ 100 := by omega
  have hhs : h.size ≤ 1000 := by have hq9 : s.data.toList.length = s.size := Array.length_toList; rw [← hh, bs_size, hexL_length, hq9]; omega
  have hhu : unh h.data.toList = some (s.data.toList.map fun b => (b.toNat : Int)) := by rw [← hh]; simp only [bs]; exact unh_hexL _
  have hsu : strOfNums (s.data.toList.map fun b => (b.toNat : Int)) = s := by rw [str_l, bs_data]
  have HX := Aside0.mk hx
  have HNX := Aside0.mk hnx
  have HH := Aside0.mk hh
  have HHU := Aside0.mk hhu
  have HSU := Aside0.mk hsu
  have HT := Aside0.mk htab
  have HV := Aside0.mk hv
  have HF := Aside0.mk hf
  have HD := Aside0.mk hd
  have HQ := Aside0.mk hq
  clear hxs htab hv hx hnx hh hhu hsu hf hd hq
  go_enter Tryd.func4, Tryd.ntmps4
  go_wp2_with fail
  refine (awake_any _).mono ?_
  rintro e w1 ⟨rfl, hb1⟩
  have HB1 := Aside0.mk hb1
  clear hb1
  go_wp2_with fail
  refine (digits_at u x HX.out hu _ (Fmt.tab_below HT.out HB1.out)).mono ?_
  rintro e w2 ⟨rfl, hb2⟩
  have HB2 := Aside0.mk (HB1.out.trans (hb2.mono HB1.out.size))
  clear hb2
  go_wp2_with fail
  refine (num_at x u 0 HNX.out hxz tp p _ (var_below HV.out HB2.out)).mono ?_
  rintro e w3 ⟨rfl, hb3⟩
  have HB3 := Aside0.mk (HB2.out.trans (hb3.mono HB2.out.size))
  clear hb3
  go_wp2_with fail
  refine (num_at s v 0 HF.out hs tp p _ (var_below HV.out HB3.out)).mono ?_
  rintro e w4 ⟨rfl, hb4⟩
  have HB4 := Aside0.mk (HB3.out.trans (hb4.mono HB3.out.size))
  clear hb4
  go_wp2_with fail
  refine (ref_num_at s v 0 HF.out hs _).mono ?_
  rintro e w5 ⟨rfl, hb5⟩
  have HB5 := Aside0.mk (HB4.out.trans (hb5.mono HB4.out.size))
  clear hb5
  go_wp2_with fail
  refine (hex_at s h HH.out hs _).mono ?_
  rintro e w6 ⟨rfl, hb6⟩
  have HB6 := Aside0.mk (HB5.out.trans (hb6.mono HB5.out.size))
  clear hb6
  go_wp2_with fail
  refine (unhex_at h s _ HHU.out HSU.out hhs _).mono ?_
  rintro e w7 ⟨rfl, hb7⟩
  have HB7 := Aside0.mk (HB6.out.trans (hb7.mono HB6.out.size))
  clear hb7
  go_wp2_with fail
  refine (unhex_not s HQ.out (by omega) _).mono ?_
  rintro e w8 ⟨rfl, hb8⟩
  have HB8 := Aside0.mk (HB7.out.trans (hb8.mono HB7.out.size))
  clear hb8
  go_wp2_with fail
  refine (ref_unhex_not s HQ.out hs _).mono ?_
  rintro e w9 ⟨rfl, hb9⟩
  have HB9 := Aside0.mk (HB8.out.trans (hb9.mono HB8.out.size))
  clear hb9
  go_wp2_with fail
  refine (ref_digits_at u x HX.out hu _).mono ?_
  rintro e wa ⟨rfl, hba⟩
  have HBa := Aside0.mk (HB9.out.trans (hba.mono HB9.out.size))
  clear hba
  go_wp2_with fail
  refine (digits_at v s HD.out hv9 _ (Fmt.tab_below HT.out HBa.out)).mono ?_
  rintro e wb ⟨rfl, hbb⟩
  have HBb := Aside0.mk (HBa.out.trans (hbb.mono HBa.out.size))
  clear hbb
  go_wp2_with fail
  refine (ref_hex_at s h HH.out hs _).mono ?_
  rintro e wc ⟨rfl, hbc⟩
  have HBc := Aside0.mk (HBb.out.trans (hbc.mono HBb.out.size))
  clear hbc
  go_wp2
  go_ret
  exact ⟨rfl, HBc.out⟩

set_option maxHeartbeats 4000000 in
theorem digits_4_some (u : Nat) (s : ByteArray) (hu : u < 18446744073709551616) (hf : numS s.data.toList = (0, 4)) (xs : List Int) (r : ByteArray) (hq : unh s.data.toList = some xs) (hr : strOfNums xs = r) (hs : s.size ≤ 100) (w : World) (htab : Lib.TabIs Tryd.prog w "internal/strconv.uint64pow10" .u64 Lib.pow10Tab)
    (tp : TypeId) (p : Value) (hv : w.var? Tryd.prog "strconv.ErrRange" = some #[.iface tp p]) :
    Calls Tryd.prog 4 #[.int .u64 u, .string s] w fun e w' => e = .returned (.bool true) ∧ Below w.heap.size w w' := by
  obtain ⟨x, hx⟩ : ∃ x : ByteArray, x = ⟨(Lib.decDigits u).toArray⟩ := ⟨_, rfl⟩
  obtain ⟨h, hh⟩ : ∃ x : ByteArray, bs (hexL s.data.toList) = x := ⟨_, rfl⟩
  have hxs := dig_size u hu x hx
  have hnx : numS x.data.toList = ((u : Int), 0) := by rw [hxs.2, numS_digits u hu]
  have hxz : x.size ≤ 100 := by omega
  have hhs : h.size ≤ 1000 := by have hq9 : s.data.toList.length = s.size := Array.length_toList; rw [← hh, bs_size, hexL_length, hq9]; omega
  have hhu : unh h.data.toList = some (s.data.toList.map fun b => (b.toNat : Int)) := by rw [← hh]; simp only [bs]; exact unh_hexL _
  have hsu : strOfNums (s.data.toList.map fun b => (b.toNat : Int)) = s := by rw [str_l, bs_data]
  have HX := Aside0.mk hx
  have HNX := Aside0.mk hnx
  have HH := Aside0.mk hh
  have HHU := Aside0.mk hhu
  have HSU := Aside0.mk hsu
  have HT := Aside0.mk htab
  have HV := Aside0.mk hv
  have HF := Aside0.mk hf
  have HQ := Aside0.mk hq
  have HR := Aside0.mk hr
  clear hxs htab hv hx hnx hh hhu hsu hf hq hr
  go_enter Tryd.func4, Tryd.ntmps4
  go_wp2_with fail
  refine (awake_any _).mono ?_
  rintro e w1 ⟨rfl, hb1⟩
  have HB1 := Aside0.mk hb1
  clear hb1
  go_wp2_with fail
  refine (digits_at u x HX.out hu _ (Fmt.tab_below HT.out HB1.out)).mono ?_
  rintro e w2 ⟨rfl, hb2⟩
  have HB2 := Aside0.mk (HB1.out.trans (hb2.mono HB1.out.size))
  clear hb2
  go_wp2_with fail
  refine (num_at x u 0 HNX.out hxz tp p _ (var_below HV.out HB2.out)).mono ?_
  rintro e w3 ⟨rfl, hb3⟩
  have HB3 := Aside0.mk (HB2.out.trans (hb3.mono HB2.out.size))
  clear hb3
  go_wp2_with fail
  refine (num_at s 0 4 HF.out hs tp p _ (var_below HV.out HB3.out)).mono ?_
  rintro e w4 ⟨rfl, hb4⟩
  have HB4 := Aside0.mk (HB3.out.trans (hb4.mono HB3.out.size))
  clear hb4
  go_wp2_with fail
  refine (ref_num_at s 0 4 HF.out hs _).mono ?_
  rintro e w5 ⟨rfl, hb5⟩
  have HB5 := Aside0.mk (HB4.out.trans (hb5.mono HB4.out.size))
  clear hb5
  go_wp2_with fail
  refine (hex_at s h HH.out hs _).mono ?_
  rintro e w6 ⟨rfl, hb6⟩
  have HB6 := Aside0.mk (HB5.out.trans (hb6.mono HB5.out.size))
  clear hb6
  go_wp2_with fail
  refine (unhex_at h s _ HHU.out HSU.out hhs _).mono ?_
  rintro e w7 ⟨rfl, hb7⟩
  have HB7 := Aside0.mk (HB6.out.trans (hb7.mono HB6.out.size))
  clear hb7
  go_wp2_with fail
  refine (unhex_at s r xs HQ.out HR.out (by omega) _).mono ?_
  rintro e w8 ⟨rfl, hb8⟩
  have HB8 := Aside0.mk (HB7.out.trans (hb8.mono HB7.out.size))
  clear hb8
  go_wp2_with fail
  refine (ref_unhex_at s r xs HQ.out HR.out hs _).mono ?_
  rintro e w9 ⟨rfl, hb9⟩
  have HB9 := Aside0.mk (HB8.out.trans (hb9.mono HB8.out.size))
  clear hb9
  go_wp2_with fail
  refine (ref_digits_at u x HX.out hu _).mono ?_
  rintro e wa ⟨rfl, hba⟩
  have HBa := Aside0.mk (HB9.out.trans (hba.mono HB9.out.size))
  clear hba
  go_wp2_with fail

  refine (ref_hex_at s h HH.out hs _).mono ?_
  rintro e wc ⟨rfl, hbc⟩
  have HBc := Aside0.mk (HBa.out.trans (hbc.mono HBa.out.size))
  clear hbc
  go_wp2
  go_ret
  exact ⟨rfl, HBc.out⟩

set_option maxHeartbeats 4000000 in
theorem digits_4_none (u : Nat) (s : ByteArray) (hu : u < 18446744073709551616) (hf : numS s.data.toList = (0, 4)) (hq : unh s.data.toList = none) (hs : s.size ≤ 100) (w : World) (htab : Lib.TabIs Tryd.prog w "internal/strconv.uint64pow10" .u64 Lib.pow10Tab)
    (tp : TypeId) (p : Value) (hv : w.var? Tryd.prog "strconv.ErrRange" = some #[.iface tp p]) :
    Calls Tryd.prog 4 #[.int .u64 u, .string s] w fun e w' => e = .returned (.bool true) ∧ Below w.heap.size w w' := by
  obtain ⟨x, hx⟩ : ∃ x : ByteArray, x = ⟨(Lib.decDigits u).toArray⟩ := ⟨_, rfl⟩
  obtain ⟨h, hh⟩ : ∃ x : ByteArray, bs (hexL s.data.toList) = x := ⟨_, rfl⟩
  have hxs := dig_size u hu x hx
  have hnx : numS x.data.toList = ((u : Int), 0) := by rw [hxs.2, numS_digits u hu]
  have hxz : x.size ≤ 100 := by omega
  have hhs : h.size ≤ 1000 := by have hq9 : s.data.toList.length = s.size := Array.length_toList; rw [← hh, bs_size, hexL_length, hq9]; omega
  have hhu : unh h.data.toList = some (s.data.toList.map fun b => (b.toNat : Int)) := by rw [← hh]; simp only [bs]; exact unh_hexL _
  have hsu : strOfNums (s.data.toList.map fun b => (b.toNat : Int)) = s := by rw [str_l, bs_data]
  have HX := Aside0.mk hx
  have HNX := Aside0.mk hnx
  have HH := Aside0.mk hh
  have HHU := Aside0.mk hhu
  have HSU := Aside0.mk hsu
  have HT := Aside0.mk htab
  have HV := Aside0.mk hv
  have HF := Aside0.mk hf
  have HQ := Aside0.mk hq
  clear hxs htab hv hx hnx hh hhu hsu hf hq
  go_enter Tryd.func4, Tryd.ntmps4
  go_wp2_with fail
  refine (awake_any _).mono ?_
  rintro e w1 ⟨rfl, hb1⟩
  have HB1 := Aside0.mk hb1
  clear hb1
  go_wp2_with fail
  refine (digits_at u x HX.out hu _ (Fmt.tab_below HT.out HB1.out)).mono ?_
  rintro e w2 ⟨rfl, hb2⟩
  have HB2 := Aside0.mk (HB1.out.trans (hb2.mono HB1.out.size))
  clear hb2
  go_wp2_with fail
  refine (num_at x u 0 HNX.out hxz tp p _ (var_below HV.out HB2.out)).mono ?_
  rintro e w3 ⟨rfl, hb3⟩
  have HB3 := Aside0.mk (HB2.out.trans (hb3.mono HB2.out.size))
  clear hb3
  go_wp2_with fail
  refine (num_at s 0 4 HF.out hs tp p _ (var_below HV.out HB3.out)).mono ?_
  rintro e w4 ⟨rfl, hb4⟩
  have HB4 := Aside0.mk (HB3.out.trans (hb4.mono HB3.out.size))
  clear hb4
  go_wp2_with fail
  refine (ref_num_at s 0 4 HF.out hs _).mono ?_
  rintro e w5 ⟨rfl, hb5⟩
  have HB5 := Aside0.mk (HB4.out.trans (hb5.mono HB4.out.size))
  clear hb5
  go_wp2_with fail
  refine (hex_at s h HH.out hs _).mono ?_
  rintro e w6 ⟨rfl, hb6⟩
  have HB6 := Aside0.mk (HB5.out.trans (hb6.mono HB5.out.size))
  clear hb6
  go_wp2_with fail
  refine (unhex_at h s _ HHU.out HSU.out hhs _).mono ?_
  rintro e w7 ⟨rfl, hb7⟩
  have HB7 := Aside0.mk (HB6.out.trans (hb7.mono HB6.out.size))
  clear hb7
  go_wp2_with fail
  refine (unhex_not s HQ.out (by omega) _).mono ?_
  rintro e w8 ⟨rfl, hb8⟩
  have HB8 := Aside0.mk (HB7.out.trans (hb8.mono HB7.out.size))
  clear hb8
  go_wp2_with fail
  refine (ref_unhex_not s HQ.out hs _).mono ?_
  rintro e w9 ⟨rfl, hb9⟩
  have HB9 := Aside0.mk (HB8.out.trans (hb9.mono HB8.out.size))
  clear hb9
  go_wp2_with fail
  refine (ref_digits_at u x HX.out hu _).mono ?_
  rintro e wa ⟨rfl, hba⟩
  have HBa := Aside0.mk (HB9.out.trans (hba.mono HB9.out.size))
  clear hba
  go_wp2_with fail

  refine (ref_hex_at s h HH.out hs _).mono ?_
  rintro e wc ⟨rfl, hbc⟩
  have HBc := Aside0.mk (HBa.out.trans (hbc.mono HBa.out.size))
  clear hbc
  go_wp2
  go_ret
  exact ⟨rfl, HBc.out⟩

set_option maxHeartbeats 4000000 in
theorem digits_7_some (u : Nat) (s : ByteArray) (hu : u < 18446744073709551616) (hf : numS s.data.toList = (0, 7)) (xs : List Int) (r : ByteArray) (hq : unh s.data.toList = some xs) (hr : strOfNums xs = r) (hs : s.size ≤ 100) (w : World) (htab : Lib.TabIs Tryd.prog w "internal/strconv.uint64pow10" .u64 Lib.pow10Tab)
    (tp : TypeId) (p : Value) (hv : w.var? Tryd.prog "strconv.ErrRange" = some #[.iface tp p]) :
    Calls Tryd.prog 4 #[.int .u64 u, .string s] w fun e w' => e = .returned (.bool true) ∧ Below w.heap.size w w' := by
  obtain ⟨x, hx⟩ : ∃ x : ByteArray, x = ⟨(Lib.decDigits u).toArray⟩ := ⟨_, rfl⟩
  obtain ⟨h, hh⟩ : ∃ x : ByteArray, bs (hexL s.data.toList) = x := ⟨_, rfl⟩
  have hxs := dig_size u hu x hx
  have hnx : numS x.data.toList = ((u : Int), 0) := by rw [hxs.2, numS_digits u hu]
  have hxz : x.size ≤ 100 := by omega
  have hhs : h.size ≤ 1000 := by have hq9 : s.data.toList.length = s.size := Array.length_toList; rw [← hh, bs_size, hexL_length, hq9]; omega
  have hhu : unh h.data.toList = some (s.data.toList.map fun b => (b.toNat : Int)) := by rw [← hh]; simp only [bs]; exact unh_hexL _
  have hsu : strOfNums (s.data.toList.map fun b => (b.toNat : Int)) = s := by rw [str_l, bs_data]
  have HX := Aside0.mk hx
  have HNX := Aside0.mk hnx
  have HH := Aside0.mk hh
  have HHU := Aside0.mk hhu
  have HSU := Aside0.mk hsu
  have HT := Aside0.mk htab
  have HV := Aside0.mk hv
  have HF := Aside0.mk hf
  have HQ := Aside0.mk hq
  have HR := Aside0.mk hr
  clear hxs htab hv hx hnx hh hhu hsu hf hq hr
  go_enter Tryd.func4, Tryd.ntmps4
  go_wp2_with fail
  refine (awake_any _).mono ?_
  rintro e w1 ⟨rfl, hb1⟩
  have HB1 := Aside0.mk hb1
  clear hb1
  go_wp2_with fail
  refine (digits_at u x HX.out hu _ (Fmt.tab_below HT.out HB1.out)).mono ?_
  rintro e w2 ⟨rfl, hb2⟩
  have HB2 := Aside0.mk (HB1.out.trans (hb2.mono HB1.out.size))
  clear hb2
  go_wp2_with fail
  refine (num_at x u 0 HNX.out hxz tp p _ (var_below HV.out HB2.out)).mono ?_
  rintro e w3 ⟨rfl, hb3⟩
  have HB3 := Aside0.mk (HB2.out.trans (hb3.mono HB2.out.size))
  clear hb3
  go_wp2_with fail
  refine (num_at s 0 7 HF.out hs tp p _ (var_below HV.out HB3.out)).mono ?_
  rintro e w4 ⟨rfl, hb4⟩
  have HB4 := Aside0.mk (HB3.out.trans (hb4.mono HB3.out.size))
  clear hb4
  go_wp2_with fail
  refine (ref_num_at s 0 7 HF.out hs _).mono ?_
  rintro e w5 ⟨rfl, hb5⟩
  have HB5 := Aside0.mk (HB4.out.trans (hb5.mono HB4.out.size))
  clear hb5
  go_wp2_with fail
  refine (hex_at s h HH.out hs _).mono ?_
  rintro e w6 ⟨rfl, hb6⟩
  have HB6 := Aside0.mk (HB5.out.trans (hb6.mono HB5.out.size))
  clear hb6
  go_wp2_with fail
  refine (unhex_at h s _ HHU.out HSU.out hhs _).mono ?_
  rintro e w7 ⟨rfl, hb7⟩
  have HB7 := Aside0.mk (HB6.out.trans (hb7.mono HB6.out.size))
  clear hb7
  go_wp2_with fail
  refine (unhex_at s r xs HQ.out HR.out (by omega) _).mono ?_
  rintro e w8 ⟨rfl, hb8⟩
  have HB8 := Aside0.mk (HB7.out.trans (hb8.mono HB7.out.size))
  clear hb8
  go_wp2_with fail
  refine (ref_unhex_at s r xs HQ.out HR.out hs _).mono ?_
  rintro e w9 ⟨rfl, hb9⟩
  have HB9 := Aside0.mk (HB8.out.trans (hb9.mono HB8.out.size))
  clear hb9
  go_wp2_with fail
  refine (ref_digits_at u x HX.out hu _).mono ?_
  rintro e wa ⟨rfl, hba⟩
  have HBa := Aside0.mk (HB9.out.trans (hba.mono HB9.out.size))
  clear hba
  go_wp2_with fail

  refine (ref_hex_at s h HH.out hs _).mono ?_
  rintro e wc ⟨rfl, hbc⟩
  have HBc := Aside0.mk (HBa.out.trans (hbc.mono HBa.out.size))
  clear hbc
  go_wp2
  go_ret
  exact ⟨rfl, HBc.out⟩

set_option maxHeartbeats 4000000 in
theorem digits_7_none (u : Nat) (s : ByteArray) (hu : u < 18446744073709551616) (hf : numS s.data.toList = (0, 7)) (hq : unh s.data.toList = none) (hs : s.size ≤ 100) (w : World) (htab : Lib.TabIs Tryd.prog w "internal/strconv.uint64pow10" .u64 Lib.pow10Tab)
    (tp : TypeId) (p : Value) (hv : w.var? Tryd.prog "strconv.ErrRange" = some #[.iface tp p]) :
    Calls Tryd.prog 4 #[.int .u64 u, .string s] w fun e w' => e = .returned (.bool true) ∧ Below w.heap.size w w' := by
  obtain ⟨x, hx⟩ : ∃ x : ByteArray, x = ⟨(Lib.decDigits u).toArray⟩ := ⟨_, rfl⟩
  obtain ⟨h, hh⟩ : ∃ x : ByteArray, bs (hexL s.data.toList) = x := ⟨_, rfl⟩
  have hxs := dig_size u hu x hx
  have hnx : numS x.data.toList = ((u : Int), 0) := by rw [hxs.2, numS_digits u hu]
  have hxz : x.size ≤ 100 := by omega
  have hhs : h.size ≤ 1000 := by have hq9 : s.data.toList.length = s.size := Array.length_toList; rw [← hh, bs_size, hexL_length, hq9]; omega
  have hhu : unh h.data.toList = some (s.data.toList.map fun b => (b.toNat : Int)) := by rw [← hh]; simp only [bs]; exact unh_hexL _
  have hsu : strOfNums (s.data.toList.map fun b => (b.toNat : Int)) = s := by rw [str_l, bs_data]
  have HX := Aside0.mk hx
  have HNX := Aside0.mk hnx
  have HH := Aside0.mk hh
  have HHU := Aside0.mk hhu
  have HSU := Aside0.mk hsu
  have HT := Aside0.mk htab
  have HV := Aside0.mk hv
  have HF := Aside0.mk hf
  have HQ := Aside0.mk hq
  clear hxs htab hv hx hnx hh hhu hsu hf hq
  go_enter Tryd.func4, Tryd.ntmps4
  go_wp2_with fail
  refine (awake_any _).mono ?_
  rintro e w1 ⟨rfl, hb1⟩
  have HB1 := Aside0.mk hb1
  clear hb1
  go_wp2_with fail
  refine (digits_at u x HX.out hu _ (Fmt.tab_below HT.out HB1.out)).mono ?_
  rintro e w2 ⟨rfl, hb2⟩
  have HB2 := Aside0.mk (HB1.out.trans (hb2.mono HB1.out.size))
  clear hb2
  go_wp2_with fail
  refine (num_at x u 0 HNX.out hxz tp p _ (var_below HV.out HB2.out)).mono ?_
  rintro e w3 ⟨rfl, hb3⟩
  have HB3 := Aside0.mk (HB2.out.trans (hb3.mono HB2.out.size))
  clear hb3
  go_wp2_with fail
  refine (num_at s 0 7 HF.out hs tp p _ (var_below HV.out HB3.out)).mono ?_
  rintro e w4 ⟨rfl, hb4⟩
  have HB4 := Aside0.mk (HB3.out.trans (hb4.mono HB3.out.size))
  clear hb4
  go_wp2_with fail
  refine (ref_num_at s 0 7 HF.out hs _).mono ?_
  rintro e w5 ⟨rfl, hb5⟩
  have HB5 := Aside0.mk (HB4.out.trans (hb5.mono HB4.out.size))
  clear hb5
  go_wp2_with fail
  refine (hex_at s h HH.out hs _).mono ?_
  rintro e w6 ⟨rfl, hb6⟩
  have HB6 := Aside0.mk (HB5.out.trans (hb6.mono HB5.out.size))
  clear hb6
  go_wp2_with fail
  refine (unhex_at h s _ HHU.out HSU.out hhs _).mono ?_
  rintro e w7 ⟨rfl, hb7⟩
  have HB7 := Aside0.mk (HB6.out.trans (hb7.mono HB6.out.size))
  clear hb7
  go_wp2_with fail
  refine (unhex_not s HQ.out (by omega) _).mono ?_
  rintro e w8 ⟨rfl, hb8⟩
  have HB8 := Aside0.mk (HB7.out.trans (hb8.mono HB7.out.size))
  clear hb8
  go_wp2_with fail
  refine (ref_unhex_not s HQ.out hs _).mono ?_
  rintro e w9 ⟨rfl, hb9⟩
  have HB9 := Aside0.mk (HB8.out.trans (hb9.mono HB8.out.size))
  clear hb9
  go_wp2_with fail
  refine (ref_digits_at u x HX.out hu _).mono ?_
  rintro e wa ⟨rfl, hba⟩
  have HBa := Aside0.mk (HB9.out.trans (hba.mono HB9.out.size))
  clear hba
  go_wp2_with fail

  refine (ref_hex_at s h HH.out hs _).mono ?_
  rintro e wc ⟨rfl, hbc⟩
  have HBc := Aside0.mk (HBa.out.trans (hbc.mono HBa.out.size))
  clear hbc
  go_wp2
  go_ret
  exact ⟨rfl, HBc.out⟩

theorem digits_walk (u : Nat) (s : ByteArray) (hu : u < 18446744073709551616) (h1 : s.size ≤ 140737488351232) (w : World) (htab : Lib.TabIs Tryd.prog w "internal/strconv.uint64pow10" .u64 Lib.pow10Tab)
    (tp : TypeId) (p : Value) (hv : w.var? Tryd.prog "strconv.ErrRange" = some #[.iface tp p]) :
    Calls Tryd.prog 4 #[.int .u64 u, .string s] w fun e w' => e = .returned (.bool true) ∧ Below w.heap.size w w' := by
  by_cases hs : s.size ≤ 100
  · cases hq : unh s.data.toList with
    | some xs =>
      rcases numS_cases s.data.toList with ⟨v, hv9, hf, hd⟩ | hf | hf
      · exact digits_ok_some u v s hu hv9 hf (by rw [hd]) xs _ hq rfl hs w htab tp p hv
      · exact digits_4_some u s hu hf xs _ hq rfl hs w htab tp p hv
      · exact digits_7_some u s hu hf xs _ hq rfl hs w htab tp p hv
    | none =>
      rcases numS_cases s.data.toList with ⟨v, hv9, hf, hd⟩ | hf | hf
      · exact digits_ok_none u v s hu hv9 hf (by rw [hd]) hq hs w htab tp p hv
      · exact digits_4_none u s hu hf hq hs w htab tp p hv
      · exact digits_7_none u s hu hf hq hs w htab tp p hv
  · exact digits_long u s w (by omega) h1
end Go.Proofs.YtihhclgjjgakpaaDoor.Fmt
