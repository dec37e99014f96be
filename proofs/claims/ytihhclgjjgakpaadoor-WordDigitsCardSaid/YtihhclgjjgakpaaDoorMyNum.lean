/- Number: its contract. The conditions: at most 100 bytes; the variable of the range error holds an error. -/
import Derived.Test.YtihhclgjjgakpaaDoorMyHex
import Derived.Test.YtihhclgjjgakpaaDoorOwnRef
import Derived.Lib.ParseIntB
import Derived.Lib.AtoiErrMem
namespace Go.Proofs.YtihhclgjjgakpaaDoor.Fmt
open Go.RowKit Go.Lib Go.Proofs.YtihhclgjjgakpaaDoorW.PrintWords Go.Proofs.YtihhclgjjgakpaaDoorW.PrintLast Go.Proofs.YtihhclgjjgakpaaDoorW.PrintMore
open Go.Proofs.YtihhclgjjgakpaaDoor.Own

theorem numT_big (l : List UInt8) : ∀ acc, 18446744073709551616 ≤ acc → Dec l → numT acc l = (0, 7) := by
  induction l with
  | nil => intro acc h _; rw [numT, if_neg (by omega)]
  | cons b l ih =>
    intro acc h hd
    have := hd b (List.mem_cons_self ..)
    rw [numT, if_pos this]
    exact ih _ (by omega) (fun c hc => hd c (List.mem_cons_of_mem _ hc))

theorem numT_bad (l : List UInt8) : ∀ acc, (∃ b, b ∈ l ∧ ¬ (48 ≤ b.toNat ∧ b.toNat ≤ 57)) → numT acc l = (0, 4) := by
  induction l with
  | nil => rintro acc ⟨b, hb, _⟩; cases hb
  | cons c l ih =>
    rintro acc ⟨b, hb, hn⟩
    rw [numT]
    by_cases h : 48 ≤ c.toNat ∧ c.toNat ≤ 57
    · rw [if_pos h]
      refine ih _ ⟨b, ?_, hn⟩
      rcases List.mem_cons.1 hb with rfl | hb
      · exact absurd h hn
      · exact hb
    · rw [if_neg h]

theorem numT_parse (l : List UInt8) : ∀ acc, acc < 18446744073709551616 → Dec l →
    (∃ u, parseUintM (2 ^ 64 - 1) acc l = .ok u ∧ numT acc l = ((u : Int), 0)) ∨ (parseUintM (2 ^ 64 - 1) acc l = .range ∧ numT acc l = (0, 7)) := by
  induction l with
  | nil => intro acc h _; exact .inl ⟨acc, rfl, by rw [numT, if_pos h]⟩
  | cons b l ih =>
    intro acc h hd
    have hb := hd b (List.mem_cons_self ..)
    have hd' : Dec l := fun c hc => hd c (List.mem_cons_of_mem _ hc)
    simp only [parseUintM]
    rw [if_pos hb, numT, if_pos hb]
    by_cases h1 : 1844674407370955162 ≤ acc
    · rw [if_pos h1]
      exact .inr ⟨rfl, numT_big l _ (by omega) hd'⟩
    · rw [if_neg h1]
      by_cases h2 : 2 ^ 64 - 1 < acc * 10 + (b.toNat - 48)
      · rw [if_pos h2]
        exact .inr ⟨rfl, numT_big l _ (by omega) hd'⟩
      · rw [if_neg h2]
        exact ih _ (by omega) hd'

def NumRel (s : ByteArray) (w : World) (i : Value) (wr : World) : Prop :=
  ∃ k : Nat, k ≤ s.size ∧ i = .int .i64 (k : Int) ∧ wr = w ∧ Dec (s.data.toList.take k) ∧ (2 ≤ k → ¬ s.data.toList.head? = some 48)

theorem head_at (s : ByteArray) (h : 0 < s.size) : s.data.toList.head? = some s[0] := by
  have h' : 0 < s.data.toList.length := by rw [Array.length_toList]; exact h
  rw [List.head?_eq_getElem?, List.getElem?_eq_getElem h']
  rfl

theorem at_list (s : ByteArray) (k : Nat) (h : k < s.size) : s.data.toList[k]? = some s[k] := by
  have h' : k < s.data.toList.length := by rw [Array.length_toList]; exact h
  rw [List.getElem?_eq_getElem h']
  rfl

theorem numS_lead (s : ByteArray) (h : 1 < s.size) (h0 : s[0] = 48) : numS s.data.toList = (0, 4) := by
  unfold numS
  have hl : s.data.toList.length = s.size := Array.length_toList
  rw [if_neg (by intro e; rw [e] at hl; simp at hl; omega), if_pos ⟨by omega, by rw [head_at s (by omega), h0]⟩]

theorem numS_bad (s : ByteArray) (k : Nat) (h : k < s.size) (hb : ¬ (48 ≤ (s[k]).toNat ∧ (s[k]).toNat ≤ 57)) : numS s.data.toList = (0, 4) := by
  unfold numS
  have hl : s.data.toList.length = s.size := Array.length_toList
  rw [if_neg (by intro e; rw [e] at hl; simp at hl; omega)]
  split
  · rfl
  · exact numT_bad _ _ ⟨s[k], List.mem_of_getElem? (at_list s k h), hb⟩

set_option maxHeartbeats 1000000 in
theorem number_any (s : ByteArray) (hs : s.size ≤ 100) (tp : TypeId) (p : Value) (w : World) (hv : w.var? Tryd.prog "strconv.ErrRange" = some #[.iface tp p]) :
    Calls Tryd.prog 9 #[.string s] w fun e w' => e = .returned (.tuple #[.int .u64 (numS s.data.toList).1, .int .i64 (numS s.data.toList).2]) ∧ Below w.heap.size w w' := by
  have HV := Aside0.mk hv
  have hl : s.data.toList.length = s.size := Array.length_toList
  have HLEN := Aside0.mk hl
  clear hv hl
  go_enter Tryd.func9, Tryd.ntmps9
  go_wp2
  go_loopw [9] (fun i wr => NumRel s w i wr) (fun i _ => s.size - (RowKit.intOf i).toNat)
  case atStart => exact ⟨0, Nat.zero_le _, rfl, rfl, fun b hb => by simp at hb, by omega⟩
  case round =>
    obtain ⟨k, hk, rfl, rfl, hdec, hlead⟩ := hrel
    have HD := Aside0.mk hdec
    have HZ := Aside0.mk hlead
    clear hdec hlead
    by_cases hlt : k < s.size
    · by_cases hd : 48 ≤ (s[k]).toNat ∧ (s[k]).toNat ≤ 57
      · by_cases hk1 : k = 1
        · subst hk1
          by_cases hz : s[0] = 48
          · have HN := Aside0.mk (numS_lead s hlt hz)
            have hz' : ((s[0]).toNat : Int) = 48 := by rw [hz]; rfl
            clear hz
            go_wp2
            go_ret2
            exact ⟨by rw [HN.out]; rfl, Below.refl _ _⟩
          · have hz' : ¬ ((s[0]).toNat : Int) = 48 := fun h => hz (UInt8.toNat_inj.1 (by simpa using Int.ofNat.inj h))
            have HZ2 := Aside0.mk hz
            have hzb : (((s[0]).toNat : Int) == 48) = false := beq_eq_false_iff_ne.2 hz'
            clear hz
            go_wp2
            show NumRel s wr (Value.int IntKind.i64 2) wr ∧ _
            refine ⟨?_, by show s.size - 2 < s.size - 1; omega⟩
            · refine ⟨2, by omega, rfl, rfl, ?_, fun _ => by rw [head_at s (by omega)]; intro h; exact HZ2.out (Option.some.inj h)⟩
              have : s.data.toList.take 2 = s.data.toList.take 1 ++ [s[1]] := by rw [List.take_add_one, at_list s 1 hlt]; rfl
              rw [this]
              intro b hb
              rcases List.mem_append.1 hb with hb | hb
              · exact HD.out b hb
              · obtain rfl : b = s[1] := by simpa using hb
                exact hd
        · have hk1' : ¬ (k : Int) = 1 := by omega
          go_wp2
          go_roundw
          case rel =>
            refine ⟨k + 1, by omega, by go_num, rfl, ?_, fun h => HZ.out (by omega)⟩
            have : s.data.toList.take (k + 1) = s.data.toList.take k ++ [s[k]] := by rw [List.take_add_one, at_list s k hlt]; rfl
            rw [this]
            intro b hb
            rcases List.mem_append.1 hb with hb | hb
            · exact HD.out b hb
            · obtain rfl : b = s[k] := by simpa using hb
              exact hd
          case measure => simp [RowKit.intOf]; omega
      · have HN := Aside0.mk (numS_bad s k hlt hd)
        have hd' : ((s[k]).toNat : Int) < 48 ∨ 57 < ((s[k]).toNat : Int) := by omega
        clear hd
        rcases hd' with hd' | hd'
        · go_wp2
          go_ret2
          exact ⟨by rw [HN.out]; rfl, Below.refl _ _⟩
        · have hd2 : ¬ ((s[k]).toNat : Int) < 48 := by omega
          go_wp2
          go_ret2
          exact ⟨by rw [HN.out]; rfl, Below.refl _ _⟩
    · obtain rfl : k = s.size := by omega
      have hfull : s.data.toList.take s.size = s.data.toList := List.take_of_length_le (by rw [HLEN.out]; omega)
      by_cases h0 : s.size = 0
      · have hnil : s.data.toList = [] := List.eq_nil_of_length_eq_zero (by rw [HLEN.out, h0])
        have HN : Aside0 (numS s.data.toList = (0, 4)) := Aside0.mk (by rw [hnil]; rfl)
        have he : s.toList.isEmpty = true := by rw [ByteArray.toList_eq, hnil]; rfl
        clear hnil hfull
        go_wp2
        go_ret2
        exact ⟨by rw [HN.out]; rfl, Below.refl _ _⟩
      · have hne : ¬ s.toList = [] := by
          rw [ByteArray.toList_eq]
          intro h
          have := HLEN.out
          rw [h] at this
          exact h0 this.symm
        have hne' : ¬ s.data.toList = [] := by rw [← ByteArray.toList_eq]; exact hne
        have hie : s.toList.isEmpty = false := by cases h : s.toList with | nil => exact absurd h hne | cons a b => rfl
        have hN : numS s.data.toList = numT 0 s.data.toList := by
          unfold numS
          rw [if_neg hne', if_neg]
          rintro ⟨h1, h2⟩
          exact HZ.out (by have := HLEN.out; omega) h2
        have hd : Dec s.data.toList := by rw [← hfull]; exact HD.out
        have HP := Aside0.mk (numT_parse s.data.toList 0 (by omega) hd)
        have hpu : parseUintB 64 s.data.toList = parseUintM (2 ^ 64 - 1) 0 s.data.toList := by unfold parseUintB; rw [if_neg hne']
        have HPU := Aside0.mk hpu
        have HN := Aside0.mk hN
        clear hd hpu hN hne' hfull
        rcases HP.out with ⟨u, h1, h2⟩ | ⟨h1, h2⟩
        · have H1 : Aside0 (parseUintB 64 s.data.toList = .ok u) := Aside0.mk (HPU.out.trans h1)
          have H2 : Aside0 (numS s.data.toList = ((u : Int), 0)) := Aside0.mk (HN.out.trans h2)
          clear h1 h2
          go_wp2_with fail
          refine (Tryd.strconv_ParseUint_10_at64_ok s (by omega) u H1.out _).mono ?_
          rintro e w1 ⟨rfl, hw1⟩
          have HB1 : Aside0 (Below wr.heap.size wr w1) := by
            rcases hw1 with rfl | rfl
            · exact Aside0.mk (Below.refl _ _)
            · exact Aside0.mk (Lib.bytesWorld_below _ _ _)
          clear hw1
          go_wp2
          go_ret2
          exact ⟨by rw [H2.out]; rfl, HB1.out⟩
        · have H1 : Aside0 (parseUintB 64 s.data.toList = .range) := Aside0.mk (HPU.out.trans h1)
          have H2 : Aside0 (numS s.data.toList = (0, 7)) := Aside0.mk (HN.out.trans h2)
          clear h1 h2
          go_wp2_with fail
          refine (Tryd.strconv_ParseUint_10_at64_range_var s (by omega) H1.out tp p _ HV.out).mono ?_
          rintro e w1 ⟨N, rfl, _, _, hb1⟩
          have HB1 := Aside0.mk hb1
          clear hb1
          go_wp2
          go_ret2
          exact ⟨by rw [H2.out]; rfl, HB1.out⟩
end Go.Proofs.YtihhclgjjgakpaaDoor.Fmt
