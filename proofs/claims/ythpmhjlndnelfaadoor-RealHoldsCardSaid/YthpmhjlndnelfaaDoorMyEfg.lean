/- fmtEFG at the digits of one half: its contract. No conditions but where its arguments lie. -/
import Derived.Test.YthpmhjlndnelfaaDoorMyShort
import Derived.LoopN
namespace Go.Proofs.YthpmhjlndnelfaaDoor.Real
open Go.RowKit Go.Lib Go.Proofs.YthpmhjlndnelfaaDoorW.PrintWords

theorem info5' : (Tryd.prog.info? 5).map (fun i => (i.zero, i.size, i.bytes)) = some (some (.int .u8 0), 1, 1) := by kernel_rfl

def EfgRes (w0 : World) (e : Ending) (w' : World) : Prop :=
  ∃ v, e = .returned v ∧ w'.ownsRow w0.heap.size 5 1 v 3 (nums .u8 [48, 46, 53]) ∧ Below w0.heap.size w0 w'

theorem own_ne {v v1 : Value} {b n : Nat} (h : v1.ownBlock = v.ownBlock ∨ ∃ k, v1.ownBlock = some k ∧ n ≤ k) (hv : v.ownBlock ≠ some b) (hb : b < n) : v1.ownBlock ≠ some b := by
  rcases h with h | ⟨k, h, hk⟩
  · rw [h]; exact hv
  · rw [h]; intro e; cases e; omega

set_option maxHeartbeats 4000000 in
set_option maxRecDepth 100000 in
theorem efg_half (w0 w : World) (A : Option Addr) (c b : Nat) (hB : Below w0.heap.size w0 w) (hown : w.ownsRow w0.heap.size 5 1 (.slice A 0 c) 0 (nums .u8 [])) (hb : w.cell? ⟨b, 0, none⟩ = some (.int .u8 53))
    (hne : (Value.slice A 0 c).ownBlock ≠ some b) :
    Calls Tryd.prog 88 #[.slice A 0 c, .bool false, .slice (some ⟨b, 0, none⟩) 32 32, .int .i64 0, .int .i64 1, .int .i64 1, .int .u8 103, .bool true] w fun e w' => EfgRes w0 e w' := by
  have hbs : b < w.heap.size := block_lt_of_cell hb
  have hsz := hB.size
  have HOW := Aside0.mk hown
  have HB := Aside0.mk hB
  have HNE := Aside0.mk hne
  have HC := Aside0.mk hb
  clear hown hB hne hb
  have hm1 : max (1 : Int) 0 = 1 := rfl
  have hm2 : min (1 : Int) 0 = 0 := rfl
  have hm3 : max (0 : Int) 1 = 1 := rfl
  have hm4 : min (1 : Int) 1 = 1 := rfl
  have hm5 : max (0 : Int) 0 = 0 := rfl
  go_enter Tryd.func88, Tryd.ntmps88
  go_wp2_with (at_builtin; refine print_append_num w0.heap.size rfl (.tmp 209) (.tmp 210) 94 5 .u8 1 rfl Tryd.underlying94 info5' (by decide) (.slice A 0 c) [] 48 rfl ?hx HOW.out HB.out hsz (by decide) ?grow)
  case hx => rfl
  case grow =>
    intro v1 w1 hown1 hB1 hg1 ho1
    have HOW1 := Aside0.mk hown1
    have HB1 := Aside0.mk hB1
    have HC1 := Aside0.mk (hg1.cell HC.out (fun e => HNE.out e.symm))
    have HNE1 := Aside0.mk (own_ne ho1 HNE.out hbs)
    have hsz1 := hB1.size
    have hbs1 : b < w1.heap.size := block_lt_of_cell HC1.out
    clear hown1 hB1 hg1 ho1
    obtain ⟨A1, c1, rfl⟩ := own_slice HOW1.out
    go_wp2_with (at_builtin; refine print_append_num w0.heap.size rfl (.tmp 214) (.tmp 215) 94 5 .u8 1 rfl Tryd.underlying94 info5' (by decide) (.slice A1 _ c1) _ 46 rfl ?hx HOW1.out HB1.out hsz1 (by decide) ?grow)
    case hx => rfl
    case grow =>
      intro v2 w2 hown2 hB2 hg2 ho2
      have HOW2 := Aside0.mk hown2
      have HB2 := Aside0.mk hB2
      have HC2 := Aside0.mk (hg2.cell HC1.out (fun e => HNE1.out e.symm))
      have HNE2 := Aside0.mk (own_ne ho2 HNE1.out hbs1)
      have hsz2 := hB2.size
      have hbs2 : b < w2.heap.size := block_lt_of_cell HC2.out
      clear hown2 hB2 hg2 ho2
      obtain ⟨A2, c2, rfl⟩ := own_slice HOW2.out
      go_wp2
      refine wp_loop_rounds 1 ?_
      rw [rounds_succ]
      go_wp2
      refine wp_loop_rounds 2 ?_
      rw [rounds_succ]
      have hc2 := HC2.out
      go_wp2_with (at_builtin; refine print_append_num w0.heap.size rfl (.tmp 250) (.tmp 257) 94 5 .u8 1 rfl Tryd.underlying94 info5' (by decide) (.slice A2 _ c2) _ 53 rfl ?hx HOW2.out HB2.out hsz2 (by decide) ?grow)
      case hx => rfl
      case grow =>
        intro v3 w3 hown3 hB3 hg3 ho3
        have HOW3 := Aside0.mk hown3
        have HB3 := Aside0.mk hB3
        clear hown3 hB3 hg3 ho3
        go_wp2
        rw [rounds_succ]
        go_wp2
        refine wp_loop_rounds 1 ?_
        rw [rounds_succ]
        go_wp2
        go_ret
        exact ⟨v3, rfl, HOW3.out, HB3.out⟩
end Go.Proofs.YthpmhjlndnelfaaDoor.Real
