/- Unhex of a text of odd length: its contract. The condition: at most 1,000,000 bytes. -/
import Derived.Test.YtihhclgjjgakpaaMyHex
import Derived.Deep.LoopGhost
namespace Go.Proofs.Ytihhclgjjgakpaa.Inbox
open Go.RowKit Go.Proofs.YtihhclgjjgakpaaW.PrintWords Go.Proofs.YtihhclgjjgakpaaW.PrintLast Go.Proofs.YtihhclgjjgakpaaW.PrintMore

theorem info5' : (Try.prog.info? 5).map (fun i => (i.zero, i.size, i.bytes)) = some (some (.int .u8 0), 1, 1) := by kernel_rfl

theorem index_any (s : ByteArray) (c : Int) (w : World) : Calls Try.prog 42 #[.string s, .int .u8 c] w fun e w' => (∃ d : Int, e = .returned (.int .i64 d)) ∧ w = w' :=
  (Try.strings_IndexByte s c w).mono fun _ _ ⟨h1, h2⟩ => ⟨⟨_, h1⟩, h2.symm⟩

/-- The rounds of the outer loop: j pairs are through. -/
def UnO (w0 : World) (h : Nat) (g : Nat) (b i : Value) (wr : World) : Prop :=
  ∃ (j : Nat) (xs : List Value), j + g = h ∧ i = .int .i64 (2 * (j : Int)) ∧ xs.length ≤ j ∧ wr.ownsRow w0.heap.size 5 1 b xs.length xs ∧ Below w0.heap.size w0 wr

def UnI (P : Prop) (b0 : Value) (g : Nat) (b c k : Value) (wr0 wr : World) : Prop :=
  ∃ (n : Nat) (x : Int), n + g = 2 ∧ k = .int .i64 (n : Int) ∧ c = .int .u8 x ∧ b = b0 ∧ (n = 2 → P) ∧ wr0 = wr

set_option maxHeartbeats 1000000 in
theorem unhex_odd (t : ByteArray) (h : Nat) (w : World) (hs : t.size ≤ 1000000) (ho : t.size = 2 * h + 1) :
    Calls Try.prog 34 #[.string t] w fun e w' => e = .returned (.tuple #[.string ⟨#[]⟩, .int .i64 4]) ∧ Below w.heap.size w w' := by
  have HO := Aside0.mk ho
  have hz : ¬ (0 : Int) = (t.size : Int) := by omega
  have hp : 0 < t.size := by omega
  clear ho
  go_enter Try.func34, Try.ntmps34
  go_wp2
  go_step3
  go_wp2
  go_step3
  go_wp2
  go_loopg [4, 5] h (fun g b i wr => UnO w h g b i wr)
  case atStart => exact ⟨0, [], by omega, rfl, Nat.le_refl _, own_nil _ _ _ _, Below.refl _ _⟩
  case round =>
    obtain ⟨j, xs, hj, rfl, hx, hown, hbel⟩ := hrel
    have HOW := Aside0.mk hown
    have HBL := Aside0.mk hbel
    have hsz := hbel.size
    clear hown hbel
    have hlt : 2 * j < t.size := by have := HO.out; omega
    have hd0 : decide (2 * (j : Int) < (t.size : Int)) = true := decide_eq_true (by omega)
    obtain ⟨A0, c0, rfl⟩ := own_slice HOW.out
    go_wp2
    go_loopg [4, 6, 15] 2 (fun g b c k wi => UnI (j < h) (.slice A0 xs.length c0) g b c k wr wi)
    case atStart => exact ⟨0, 0, rfl, rfl, rfl, rfl, by simp, rfl⟩
    case round =>
      obtain ⟨n, x, hn, rfl, rfl, rfl, hjh2, rfl⟩ := hrel
      have HJ := Aside0.mk hjh2
      clear hjh2
      have h3 : n = 0 ∨ n = 1 ∨ n = 2 := by omega
      rcases h3 with rfl | rfl | rfl
      · go_wp2_with (go_at_call 42; refine (index_any _ _ _).mono ?_; rintro e w' ⟨⟨d, rfl⟩, rfl⟩)
        · rw [Exit.noGoto_ret]
          go_ret2
          exact ⟨rfl, HBL.out⟩
        · go_roundg 1
          case rel => exact ⟨1, _, rfl, rfl, rfl, rfl, by simp, rfl⟩
          case measure => omega
      · by_cases hjh : j = h
        · have hge : t.size ≤ 2 * j + 1 := by have := HO.out; omega
          clear hjh
          go_wp2
          rw [Exit.noGoto_ret]
          go_ret2
          exact ⟨rfl, HBL.out⟩
        · have hge : 2 * j + 1 < t.size := by have := HO.out; omega
          go_wp2_with (go_at_call 42; refine (index_any _ _ _).mono ?_; rintro e w' ⟨⟨d, rfl⟩, rfl⟩)
          · rw [Exit.noGoto_ret]
            go_ret2
            exact ⟨rfl, HBL.out⟩
          · go_roundg 0
            case rel => exact ⟨2, _, rfl, rfl, rfl, rfl, fun _ => by have := HO.out; omega, rfl⟩
            case measure => omega
      · have hjh : j < h := HJ.out rfl
        go_wp2_with (at_builtin; refine print_append w.heap.size rfl (.tmp 38) (.tmp 40) 67 5 (.int .u8 0) 1 rfl Try.underlying67 info5' rfl (by decide) (.slice A0 xs.length c0) xs (.int .u8 x) rfl ?hx rfl HOW.out (Below.refl _ _) hsz (by omega) ?grow)
        case grow =>
          intro v1 w4 hown4 _ hg4 _
          have HO4 := Aside0.mk hown4
          have HG4 := Aside0.mk hg4
          clear hown4 hg4
          go_wp2
          go_roundg (h - (j + 1))
          case rel =>
            refine ⟨j + 1, xs ++ [.int .u8 x], by omega, by go_num, by simp; omega, by rw [List.length_append]; exact HO4.out, ?_⟩
            exact HBL.out.grown HG4.out hsz (own_base HOW.out)
          case measure => omega
end Go.Proofs.Ytihhclgjjgakpaa.Inbox
