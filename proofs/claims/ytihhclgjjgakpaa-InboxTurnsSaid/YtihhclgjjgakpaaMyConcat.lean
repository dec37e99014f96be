/- slices.Grow of nil, slices.Concat of two, at texts and at whole numbers: contracts. The conditions: no more than 4,000,000 elements. -/
import Derived.Test.YtihhclgjjgakpaaMyInbox
import Derived.Lib.AppendZeros
namespace Go.Proofs.Ytihhclgjjgakpaa.Inbox
open Go.RowKit Go.Proofs.YtihhclgjjgakpaaW.PrintWords Go.Proofs.YtihhclgjjgakpaaW.PrintLast Go.Proofs.YtihhclgjjgakpaaW.PrintMore
theorem info3' : (Try.prog.info? 3).map (fun i => (i.zero, i.size, i.bytes)) = some (some (.int .i64 0), 1, 8) := by kernel_rfl

/-! strs -/
theorem grow_nil_strs (n : Nat) (w : World) (hn : n ≤ 4000000) :
    Calls Try.prog 38 #[.slice none 0 0, .int .i64 (n : Int)] w fun e w' => ∃ A c, e = .returned (.slice A 0 c) ∧ w'.ownsRow w.heap.size 9 1 (.slice A 0 c) 0 [] ∧ Below w.heap.size w w' := by
  obtain ⟨i0, hi, hz0, hz1, hz2⟩ := info_parts info9'
  rcases Nat.eq_zero_or_pos n with rfl | h0
  · go_enter Try.func38, Try.ntmps38
    go_wp2
    go_ret
    exact ⟨none, 0, rfl, own_nil _ _ _ _, Below.refl _ _⟩
  · have hrun := Lib.run_append_nil_zeros (P := Try.prog) w 22 3 22 9 i0 (.string ⟨#[]⟩) .i64 .i64 Try.underlying22 Try.underlying3 hi hz0 n h0 (by rw [hz1]; decide) (by omega) (by rw [hz2]; omega)
    have HRUN := Aside0.mk hrun
    have hge := grownCap_ge w n 0 9
    have hcm := grownCap_le_maxLen w n 0 9 (by unfold maxLen; omega)
    have HGE := Aside0.mk hge
    have HCM := Aside0.mk hcm
    clear hrun hi hz0 hz1 hz2 hge hcm
    have hn0 : ¬ (n : Int) < 0 := by omega
    have hn1 : (0 : Int) < n := by omega
    go_enter Try.func38, Try.ntmps38
    go_wp2_with (at_builtin; refine Lib.wpList_append_run _ rfl (.tmp 20) (.tmp 21) 22 3 rfl (.slice none 0 0) (.int .i64 (n : Int)) rfl rfl _ _ HRUN.out ?_)
    go_ret
    refine ⟨some ⟨w.heap.size, 0, none⟩, _, rfl, ⟨rfl, .inr ⟨w.heap.size, _, _, rfl, Nat.le_refl _, heap_alloc_new w.drew _, Nat.zero_le _, HCM.out, ?_, ?_⟩⟩, ((Below.refl _ _).drew).alloc (Nat.le_refl _) _⟩
    · have := HGE.out
      simp [size_zeroCells]
      omega
    · simp

def Size2_strs (n1 n2 k : Nat) : Nat := if k = 0 then 0 else if k = 1 then n1 else n1 + n2

def ConcatPost_strs (l : List ByteArray) (w : World) (e : Ending) (w' : World) : Prop :=
  ∃ A c, e = .returned (.slice A l.length c) ∧ w'.ownsRow w.heap.size 9 1 (.slice A l.length c) l.length (encs Value.string l) ∧ Below w.heap.size w w'

def Sum_strs (n1 n2 : Nat) (s i : Value) : Prop := ∃ k : Nat, k ≤ 2 ∧ i = .int .i64 (k : Int) ∧ s = .int .i64 ((Size2_strs n1 n2 k : Nat) : Int)

def Joined_strs (l1 l2 : List ByteArray) (w : World) (v i : Value) (wr : World) : Prop :=
  ∃ (k : Nat) (l : List ByteArray) (A : Option Addr) (c : Nat), k ≤ 2 ∧ i = .int .i64 (k : Int) ∧ l = (if k = 0 then [] else if k = 1 then l1 else l1 ++ l2) ∧ v = .slice A l.length c ∧ wr.ownsRow w.heap.size 9 1 (.slice A l.length c) l.length (encs Value.string l) ∧ Below w.heap.size w wr

set_option maxHeartbeats 1000000 in
theorem concat_two_strs (b : Nat) (A1 A2 : Option Addr) (c1 c2 : Nat) (l1 l2 : List ByteArray) (w : World) (h1 : l1.length ≤ 1000000) (h2 : l2.length ≤ 1000000)
    (q1 : w.cell? ⟨b, 0, none⟩ = some (.slice A1 l1.length c1)) (q2 : w.cell? ⟨b, 1, none⟩ = some (.slice A2 l2.length c2)) (r1 : ReadsOf Value.string ByteArray.empty w A1 l1.length l1) (r2 : ReadsOf Value.string ByteArray.empty w A2 l2.length l2) :
    Calls Try.prog 28 #[.slice (some ⟨b, 0, none⟩) 2 2] w (ConcatPost_strs (l1 ++ l2) w) := by
  have R1 := Aside0.mk r1
  have R2 := Aside0.mk r2
  have Q1 := Aside0.mk q1
  have Q2 := Aside0.mk q2
  clear r1 r2
  go_enter Try.func28, Try.ntmps28
  go_wp2
  go_loop [3, 11] (fun s i => Sum_strs l1.length l2.length s i) (fun _ i => 2 - (intOf i).toNat)
  case atStart => exact ⟨0, by omega, rfl, rfl⟩
  case round =>
    obtain ⟨k, hk, rfl, rfl⟩ := hrel
    have hk' : k = 0 ∨ k = 1 ∨ k = 2 := by omega
    rcases hk' with rfl | rfl | rfl
    · have hs0 : Size2_strs l1.length l2.length 0 = 0 := rfl
      rw [hs0]
      clear hs0
      go_wp2
      go_round
      case rel => exact ⟨1, by omega, rfl, by simp [Size2_strs]⟩
      case measure => simp [intOf]
    · have hs1 : Size2_strs l1.length l2.length 1 = l1.length := rfl
      rw [hs1]
      clear hs1
      go_wp2
      go_round
      case rel => exact ⟨2, by omega, rfl, by simp [Size2_strs]⟩
      case measure => simp [intOf]
    · have hs2 : Size2_strs l1.length l2.length 2 = l1.length + l2.length := rfl
      rw [hs2]
      clear hs2 q1 q2
      go_wp2_with fail
      refine (grow_nil_strs (l1.length + l2.length) w (by omega)).mono ?_
      rintro e w2 ⟨A0, c0, rfl, hown, hb⟩
      have HO := Aside0.mk hown
      have HB := Aside0.mk hb
      have hsz := hb.size
      clear hown hb
      go_wp2
      go_loopw [6, 27] (fun v i wr => Joined_strs l1 l2 w v i wr) (fun _ i _ => 2 - (intOf i).toNat)
      case atStart => exact ⟨0, [], A0, c0, by omega, rfl, rfl, rfl, HO.out, HB.out⟩
      case round =>
        obtain ⟨k, l, A3, c3, hk3, rfl, hl, rfl, hown3, hb3⟩ := hrel
        have HO3 := Aside0.mk hown3
        have HB3 := Aside0.mk hb3
        have hsz3 := hb3.size
        have q1 := pw_cell_below HB3.out Q1.out
        have q2 := pw_cell_below HB3.out Q2.out
        clear hown3 hb3
        have hk' : k = 0 ∨ k = 1 ∨ k = 2 := by omega
        rcases hk' with rfl | rfl | rfl
        · obtain rfl : l = [] := by simpa using hl
          clear hl
          go_wp2_with (at_builtin; refine print_append_row_of Value.string ByteArray.empty w.heap.size rfl (.tmp 31) (.tmp 32) 22 9 (.string ⟨#[]⟩) 16 rfl Try.underlying22 info9' rfl (by decide) (fun _ => rfl) (.slice A3 0 c3) [] l1 A1 l1.length c1 rfl rfl HO3.out (R1.out.below HB3.out) HB3.out hsz3 (by simp; omega) ?grow0)
          case grow0 =>
            intro v1 w4 hown4 hb4 _ _
            obtain ⟨A4, c4, rfl⟩ := own_slice hown4
            have HO4 := Aside0.mk hown4
            have HB4 := Aside0.mk hb4
            clear hown4 hb4
            go_wp2
            go_roundw
            case rel => exact ⟨1, l1, A4, c4, by omega, rfl, by simp, by simp, by simpa using HO4.out, HB4.out⟩
            case measure => simp [intOf]
        · obtain rfl : l = l1 := by simpa using hl
          clear hl
          go_wp2_with (at_builtin; refine print_append_row_of Value.string ByteArray.empty w.heap.size rfl (.tmp 31) (.tmp 32) 22 9 (.string ⟨#[]⟩) 16 rfl Try.underlying22 info9' rfl (by decide) (fun _ => rfl) (.slice A3 l.length c3) l l2 A2 l2.length c2 rfl rfl HO3.out (R2.out.below HB3.out) HB3.out hsz3 (by omega) ?grow1)
          case grow1 =>
            intro v1 w4 hown4 hb4 _ _
            obtain ⟨A4, c4, rfl⟩ := own_slice hown4
            have HO4 := Aside0.mk hown4
            have HB4 := Aside0.mk hb4
            clear hown4 hb4
            go_wp2
            go_roundw
            case rel => exact ⟨2, l ++ l2, A4, c4, by omega, rfl, by simp, by rw [List.length_append], by rw [List.length_append]; exact HO4.out, HB4.out⟩
            case measure => simp [intOf]
        · obtain rfl : l = l1 ++ l2 := by simpa using hl
          clear hl
          go_wp2
          go_ret
          exact ⟨A3, c3, rfl, HO3.out, HB3.out⟩

/-! ints -/
theorem grow_nil_ints (n : Nat) (w : World) (hn : n ≤ 4000000) :
    Calls Try.prog 37 #[.slice none 0 0, .int .i64 (n : Int)] w fun e w' => ∃ A c, e = .returned (.slice A 0 c) ∧ w'.ownsRow w.heap.size 3 1 (.slice A 0 c) 0 [] ∧ Below w.heap.size w w' := by
  obtain ⟨i0, hi, hz0, hz1, hz2⟩ := info_parts info3'
  rcases Nat.eq_zero_or_pos n with rfl | h0
  · go_enter Try.func37, Try.ntmps37
    go_wp2
    go_ret
    exact ⟨none, 0, rfl, own_nil _ _ _ _, Below.refl _ _⟩
  · have hrun := Lib.run_append_nil_zeros (P := Try.prog) w 43 3 43 3 i0 (.int .i64 0) .i64 .i64 Try.underlying43 Try.underlying3 hi hz0 n h0 (by rw [hz1]; decide) (by omega) (by rw [hz2]; omega)
    have HRUN := Aside0.mk hrun
    have hge := grownCap_ge w n 0 3
    have hcm := grownCap_le_maxLen w n 0 3 (by unfold maxLen; omega)
    have HGE := Aside0.mk hge
    have HCM := Aside0.mk hcm
    clear hrun hi hz0 hz1 hz2 hge hcm
    have hn0 : ¬ (n : Int) < 0 := by omega
    have hn1 : (0 : Int) < n := by omega
    go_enter Try.func37, Try.ntmps37
    go_wp2_with (at_builtin; refine Lib.wpList_append_run _ rfl (.tmp 20) (.tmp 21) 43 3 rfl (.slice none 0 0) (.int .i64 (n : Int)) rfl rfl _ _ HRUN.out ?_)
    go_ret
    refine ⟨some ⟨w.heap.size, 0, none⟩, _, rfl, ⟨rfl, .inr ⟨w.heap.size, _, _, rfl, Nat.le_refl _, heap_alloc_new w.drew _, Nat.zero_le _, HCM.out, ?_, ?_⟩⟩, ((Below.refl _ _).drew).alloc (Nat.le_refl _) _⟩
    · have := HGE.out
      simp [size_zeroCells]
      omega
    · simp

def Size2_ints (n1 n2 k : Nat) : Nat := if k = 0 then 0 else if k = 1 then n1 else n1 + n2

def ConcatPost_ints (l : List Int) (w : World) (e : Ending) (w' : World) : Prop :=
  ∃ A c, e = .returned (.slice A l.length c) ∧ w'.ownsRow w.heap.size 3 1 (.slice A l.length c) l.length (encs (Value.int .i64) l) ∧ Below w.heap.size w w'

def Sum_ints (n1 n2 : Nat) (s i : Value) : Prop := ∃ k : Nat, k ≤ 2 ∧ i = .int .i64 (k : Int) ∧ s = .int .i64 ((Size2_ints n1 n2 k : Nat) : Int)

def Joined_ints (l1 l2 : List Int) (w : World) (v i : Value) (wr : World) : Prop :=
  ∃ (k : Nat) (l : List Int) (A : Option Addr) (c : Nat), k ≤ 2 ∧ i = .int .i64 (k : Int) ∧ l = (if k = 0 then [] else if k = 1 then l1 else l1 ++ l2) ∧ v = .slice A l.length c ∧ wr.ownsRow w.heap.size 3 1 (.slice A l.length c) l.length (encs (Value.int .i64) l) ∧ Below w.heap.size w wr

set_option maxHeartbeats 1000000 in
theorem concat_two_ints (b : Nat) (A1 A2 : Option Addr) (c1 c2 : Nat) (l1 l2 : List Int) (w : World) (h1 : l1.length ≤ 1000000) (h2 : l2.length ≤ 1000000)
    (q1 : w.cell? ⟨b, 0, none⟩ = some (.slice A1 l1.length c1)) (q2 : w.cell? ⟨b, 1, none⟩ = some (.slice A2 l2.length c2)) (r1 : ReadsOf (Value.int .i64) 0 w A1 l1.length l1) (r2 : ReadsOf (Value.int .i64) 0 w A2 l2.length l2) :
    Calls Try.prog 26 #[.slice (some ⟨b, 0, none⟩) 2 2] w (ConcatPost_ints (l1 ++ l2) w) := by
  have R1 := Aside0.mk r1
  have R2 := Aside0.mk r2
  have Q1 := Aside0.mk q1
  have Q2 := Aside0.mk q2
  clear r1 r2
  go_enter Try.func26, Try.ntmps26
  go_wp2
  go_loop [3, 11] (fun s i => Sum_ints l1.length l2.length s i) (fun _ i => 2 - (intOf i).toNat)
  case atStart => exact ⟨0, by omega, rfl, rfl⟩
  case round =>
    obtain ⟨k, hk, rfl, rfl⟩ := hrel
    have hk' : k = 0 ∨ k = 1 ∨ k = 2 := by omega
    rcases hk' with rfl | rfl | rfl
    · have hs0 : Size2_ints l1.length l2.length 0 = 0 := rfl
      rw [hs0]
      clear hs0
      go_wp2
      go_round
      case rel => exact ⟨1, by omega, rfl, by simp [Size2_ints]⟩
      case measure => simp [intOf]
    · have hs1 : Size2_ints l1.length l2.length 1 = l1.length := rfl
      rw [hs1]
      clear hs1
      go_wp2
      go_round
      case rel => exact ⟨2, by omega, rfl, by simp [Size2_ints]⟩
      case measure => simp [intOf]
    · have hs2 : Size2_ints l1.length l2.length 2 = l1.length + l2.length := rfl
      rw [hs2]
      clear hs2 q1 q2
      go_wp2_with fail
      refine (grow_nil_ints (l1.length + l2.length) w (by omega)).mono ?_
      rintro e w2 ⟨A0, c0, rfl, hown, hb⟩
      have HO := Aside0.mk hown
      have HB := Aside0.mk hb
      have hsz := hb.size
      clear hown hb
      go_wp2
      go_loopw [6, 27] (fun v i wr => Joined_ints l1 l2 w v i wr) (fun _ i _ => 2 - (intOf i).toNat)
      case atStart => exact ⟨0, [], A0, c0, by omega, rfl, rfl, rfl, HO.out, HB.out⟩
      case round =>
        obtain ⟨k, l, A3, c3, hk3, rfl, hl, rfl, hown3, hb3⟩ := hrel
        have HO3 := Aside0.mk hown3
        have HB3 := Aside0.mk hb3
        have hsz3 := hb3.size
        have q1 := pw_cell_below HB3.out Q1.out
        have q2 := pw_cell_below HB3.out Q2.out
        clear hown3 hb3
        have hk' : k = 0 ∨ k = 1 ∨ k = 2 := by omega
        rcases hk' with rfl | rfl | rfl
        · obtain rfl : l = [] := by simpa using hl
          clear hl
          go_wp2_with (at_builtin; refine print_append_row_of (Value.int .i64) 0 w.heap.size rfl (.tmp 31) (.tmp 32) 43 3 (.int .i64 0) 8 rfl Try.underlying43 info3' rfl (by decide) (fun _ => rfl) (.slice A3 0 c3) [] l1 A1 l1.length c1 rfl rfl HO3.out (R1.out.below HB3.out) HB3.out hsz3 (by simp; omega) ?grow0)
          case grow0 =>
            intro v1 w4 hown4 hb4 _ _
            obtain ⟨A4, c4, rfl⟩ := own_slice hown4
            have HO4 := Aside0.mk hown4
            have HB4 := Aside0.mk hb4
            clear hown4 hb4
            go_wp2
            go_roundw
            case rel => exact ⟨1, l1, A4, c4, by omega, rfl, by simp, by simp, by simpa using HO4.out, HB4.out⟩
            case measure => simp [intOf]
        · obtain rfl : l = l1 := by simpa using hl
          clear hl
          go_wp2_with (at_builtin; refine print_append_row_of (Value.int .i64) 0 w.heap.size rfl (.tmp 31) (.tmp 32) 43 3 (.int .i64 0) 8 rfl Try.underlying43 info3' rfl (by decide) (fun _ => rfl) (.slice A3 l.length c3) l l2 A2 l2.length c2 rfl rfl HO3.out (R2.out.below HB3.out) HB3.out hsz3 (by omega) ?grow1)
          case grow1 =>
            intro v1 w4 hown4 hb4 _ _
            obtain ⟨A4, c4, rfl⟩ := own_slice hown4
            have HO4 := Aside0.mk hown4
            have HB4 := Aside0.mk hb4
            clear hown4 hb4
            go_wp2
            go_roundw
            case rel => exact ⟨2, l ++ l2, A4, c4, by omega, rfl, by simp, by rw [List.length_append], by rw [List.length_append]; exact HO4.out, HB4.out⟩
            case measure => simp [intOf]
        · obtain rfl : l = l1 ++ l2 := by simpa using hl
          clear hl
          go_wp2
          go_ret
          exact ⟨A3, c3, rfl, HO3.out, HB3.out⟩
end Go.Proofs.Ytihhclgjjgakpaa.Inbox
