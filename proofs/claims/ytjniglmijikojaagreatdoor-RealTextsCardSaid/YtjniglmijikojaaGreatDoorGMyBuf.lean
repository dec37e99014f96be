/- A row of bytes that is written behind a row of digits that is read. No conditions. fmtEFG where it writes an exponent: its contract. No conditions but where its arguments lie. -/
import Derived.Test.YtjniglmijikojaaGreatDoorGMyW0
import Derived.Test.YtjniglmijikojaaGreatDoorGOwnPw
import Derived.Deep.DeepCutAuto
import Derived.Deep.CutBlock
import Derived.Handy
namespace Go.Proofs.YtjniglmijikojaaGreatDoor.Text
open Go.RowKit Go.Lib Go.Proofs.YtjniglmijikojaaGreatDoor.Own Go.Proofs.YtjniglmijikojaaGreatDoorW.PrintWords

theorem info5' : (Tryz.prog.info? 5).map (fun i => (i.zero, i.size, i.bytes)) = some (some (.int .u8 0), 1, 1) := by kernel_rfl

/-- A row of bytes l is one's own; the digits ds stand in another block. -/
structure Buf (w0 w : World) (v : Value) (l : List Int) (b : Nat) (ds : List Int) : Prop where
  own : w.ownsRow w0.heap.size 5 1 v l.length (nums .u8 l)
  bel : Below w0.heap.size w0 w
  ne : v.ownBlock ≠ some b
  dig : ∀ j (h : j < ds.length), w.cell? ⟨b, j, none⟩ = some (.int .u8 ds[j])
  lt : b < w.heap.size

theorem own_ne' {v v1 : Value} {b n : Nat} (h : v1.ownBlock = v.ownBlock ∨ ∃ k, v1.ownBlock = some k ∧ n ≤ k) (hv : v.ownBlock ≠ some b) (hb : b < n) : v1.ownBlock ≠ some b := by
  rcases h with h | ⟨k, h, hk⟩
  · rw [h]; exact hv
  · rw [h]; intro e; cases e; omega

theorem Buf.next {w0 W w1 : World} {v v1 : Value} {l l1 : List Int} {b : Nat} {ds : List Int} (H : Buf w0 W v l b ds) (hown : w1.ownsRow w0.heap.size 5 1 v1 l1.length (nums .u8 l1)) (hB : Below w0.heap.size w0 w1) (hg : W.grownBy w1 v.ownBlock)
    (ho : v1.ownBlock = v.ownBlock ∨ ∃ b, v1.ownBlock = some b ∧ W.heap.size ≤ b) : Buf w0 w1 v1 l1 b ds :=
  ⟨hown, hB, own_ne' ho H.ne H.lt, fun j h => hg.cell (H.dig j h) (fun e => H.ne e.symm), Nat.lt_of_lt_of_le H.lt hg.size⟩

section
variable {ops : Array Oper} {rest : List Oper} {o : Oper} {a : Act} {Q : Exit → Act → World → Prop}

theorem buf_app {w0 W : World} {v : Value} {l : List Int} {b : Nat} {ds : List Int} (H : Buf w0 W v l b ds) (s x : Operand) (y : Int) (hgd : o.guard = none)
    (ho : o.op = .call { callee := .builtin .append, args := #[s, x], argTypes := #[52, 52] }) (hs : a.eval s = v) (hx : a.eval x = .slice (some ⟨W.heap.size, 0, none⟩) 1 1) (hl : l.length ≤ 1000)
    (h : ∀ v1 w1, Buf w0 w1 v1 (l ++ [y]) b ds → wpList Tryz.prog ops Q rest (a.put o.dst v1) w1) : wpList Tryz.prog ops Q (o :: rest) a (W.alloc (.cells #[.int .u8 y] 5)) :=
  print_append_num w0.heap.size hgd s x 52 5 .u8 1 ho Tryz.underlying52 info5' (by decide) v l y hs hx H.own H.bel H.bel.size (by omega)
    fun v1 w1 hown hB hg ho => h v1 w1 (H.next hown hB hg ho)

theorem buf_row {w0 W : World} {v : Value} {l : List Int} {b : Nat} {ds : List Int} (H : Buf w0 W v l b ds) (s x : Operand) (ys : List Int) (A : Option Addr) (m c : Nat) (HR : ReadsInt W .u8 A m ys) (hgd : o.guard = none)
    (ho : o.op = .call { callee := .builtin .append, args := #[s, x], argTypes := #[52, 52] }) (hs : a.eval s = v) (hx : a.eval x = .slice A m c) (hl : l.length ≤ 1000) (hm : m ≤ 1000)
    (h : ∀ v1 w1, Buf w0 w1 v1 (l ++ ys) b ds → wpList Tryz.prog ops Q rest (a.put o.dst v1) w1) : wpList Tryz.prog ops Q (o :: rest) a W :=
  print_append_row w0.heap.size hgd s x 52 5 .u8 1 ho Tryz.underlying52 info5' (by decide) v l ys A m c hs hx H.own HR H.bel H.bel.size (by omega)
    fun v1 w1 hown hB hg ho => h v1 w1 (H.next hown hB hg ho)

theorem Buf.alloc {w0 W : World} {v : Value} {l : List Int} {b : Nat} {ds : List Int} (H : Buf w0 W v l b ds) (ob : Obj) : Buf w0 (W.alloc ob) v l b ds :=
  ⟨H.own.alloc _, H.bel.alloc H.bel.size _, H.ne, fun j h => by rw [← H.dig j h]; exact World.cell?_alloc_old W ob _ (Nat.ne_of_lt H.lt), by simp; have := H.lt; omega⟩

theorem buf_lits {w0 W : World} {v : Value} {l : List Int} {b : Nat} {ds : List Int} (H : Buf w0 W v l b ds) (s x : Operand) (ys : List Int) (cs : Array Value) (hcs : cs = (nums .u8 ys).toArray) (hgd : o.guard = none)
    (ho : o.op = .call { callee := .builtin .append, args := #[s, x], argTypes := #[52, 52] }) (hs : a.eval s = v) (hx : a.eval x = .slice (some ⟨W.heap.size, 0, none⟩) ys.length ys.length) (hl : l.length ≤ 1000) (hm : ys.length ≤ 1000)
    (h : ∀ v1 w1, Buf w0 w1 v1 (l ++ ys) b ds → wpList Tryz.prog ops Q rest (a.put o.dst v1) w1) : wpList Tryz.prog ops Q (o :: rest) a (W.alloc (.cells cs 5)) := by
  subst hcs
  obtain ⟨A, c, e, HR⟩ := own_reads (own_lit W w0.heap.size 5 .u8 ys H.bel.size (by omega))
  cases e
  exact buf_row (H.alloc _) s x ys _ _ _ HR hgd ho hs hx hl hm h
end
end Go.Proofs.YtjniglmijikojaaGreatDoor.Text
namespace Go.Proofs.YtjniglmijikojaaGreatDoor.Text
set_option linter.unusedSimpArgs false
set_option linter.unusedVariables false
open Go.RowKit Go.Lib Go.Proofs.YtjniglmijikojaaGreatDoor.Own Go.Proofs.YtjniglmijikojaaGreatDoorW.PrintWords

def EfgRes (w0 : World) (l : List Int) (b : Nat) (ds : List Int) (e : Ending) (w' : World) : Prop := ∃ v, e = .returned v ∧ Buf w0 w' v l b ds

theorem addr_add (b k j : Nat) : (⟨b, k, none⟩ : Addr).add j = ⟨b, k + j, none⟩ := by unfold Addr.add; split <;> simp_all
theorem buf_tail {w0 w : World} {v : Value} {l : List Int} {b : Nat} {c : Int} {r : List Int} {n : Int} (H : Buf w0 w v l b (c :: r)) (hr : r.length ≤ 16) (hn : ((r.length + 1 : Nat) : Int) = n) : ReadsInt w .u8 (some ⟨b, 1, none⟩) (n.toNat - 1) r := by
  have e : n.toNat - 1 = r.length := by omega
  rw [e]
  refine ⟨rfl, ?_, fun _ => ⟨_, rfl, fun j hj => ?_⟩⟩
  · omega
  · rw [addr_add, Nat.add_comm 1 j, H.dig (j + 1) (by simp; omega)]
    simp [List.getD_eq_getElem?_getD, List.getElem?_eq_getElem hj]
theorem sgl_len (neg : Bool) : (sgl neg).length ≤ 1 := by cases neg <;> decide

set_option maxRecDepth 30000 in
set_option maxHeartbeats 4000000 in
theorem efg_e (w0 w : World) (v : Value) (b : Nat) (neg : Bool) (c : Int) (r : List Int) (dp : Int) (hr : r.length ≤ 16) (h1 : -400 ≤ dp) (h2 : dp ≤ 400) (hE : dp - 1 < -4 ∨ 6 ≤ dp - 1)
    (hB : Buf w0 w v [] b (c :: r)) :
    Calls Tryz.prog 42 #[v, .bool neg, .slice (some ⟨b, 0, none⟩) 32 32, .int .i64 dp, .int .i64 ((r.length + 1 : Nat) : Int), .int .i64 ((r.length + 1 : Nat) : Int), .int .u8 103, .bool true] w (EfgRes w0 (txE neg c r dp) b (c :: r)) := by
  have HB := Aside0.mk hB
  have HSG := Aside0.mk (sgl_len neg)
  have HR := Aside0.mk hr
  clear hB
  obtain ⟨n, hn⟩ : ∃ n : Int, ((r.length + 1 : Nat) : Int) = n := ⟨_, rfl⟩
  have hn1 : 1 ≤ n := by omega
  have hn2 : n ≤ 17 := by omega
  rw [hn]
  have HN := Aside0.mk hn
  clear hn hr
  have q1 := eq_false (show ¬ n > n by omega)
  have q1' := eq_false (show ¬ n < n by omega)
  go_enter Tryz.func42, Tryz.ntmps42
  go_upto_region 8 with fail
  go_cut [56] from 50 to 56 (fun c wx => c = .bool true ∧ w = wx)
  case first =>
    rcases hE with h | h
    · have p := eq_true h
      clear h
      go_wp2_with fail
      go_meet
      case rel => exact ⟨rfl, rfl⟩
    · have p := eq_false (show ¬ dp - 1 < -4 by omega)
      have p' := eq_true h
      clear h
      go_wp2_with fail
      go_meet
      case rel => exact ⟨rfl, rfl⟩
  case rest =>
    obtain ⟨rfl, rfl⟩ := hcut
    clear hE
    go_upto_if 78 with fail
    go_cut [0] from 78 to 81 (fun v wx => Buf w0 wx v (sgl neg) b (c :: r))
    case first =>
      cases neg
      · go_wp2_with fail
        go_meet
        case rel => exact HB.out
      · go_wp2_with ((at_builtin; refine buf_app HB.out _ _ _ rfl rfl rfl rfl (by have := HSG.out; first | omega | (simp only [List.length_append, List.length_cons, List.length_nil]; omega) | simp) ?_); intro v1 w1 nB; clear HB; have HB := Aside0.mk nB; clear nB)
        go_meet
        case rel => exact HB.out
    case rest =>
      clear HB
      have HB := Aside0.mk hcut
      have hc0 := hcut.dig 0 (by simp)
      have hlt := hcut.lt
      have q2 : (n != 0) = true := bne_iff_ne.2 (by omega)
      clear hcut
      go_upto_if 83 with fail
      go_cut [19] from 82 to 86 (fun ch wx => ch = .int .u8 c ∧ wc = wx)
      case first =>
        go_wp2_with fail
        go_meet
        case rel => exact ⟨rfl, rfl⟩
      case rest =>
        obtain ⟨rfl, rfl⟩ := hcut
        clear hc0 q2
        obtain ⟨bR, hbR⟩ : ∃ bR : Bool, decide (1 < n) = bR := ⟨_, rfl⟩
        have HBR := Aside0.mk hbR
        clear hbR
        go_upto_region 26 with ((at_builtin; refine buf_app HB.out _ _ _ rfl rfl rfl rfl (by have := HSG.out; first | omega | (simp only [List.length_append, List.length_cons, List.length_nil]; omega) | simp) ?_); intro v1 w1 nB; clear HB; have HB := Aside0.mk nB; clear nB)
        clear hlt
        have hlt := HB.out.lt
        go_cut [92] from 91 to 92 (fun c wx => c = .bool bR ∧ w1 = wx)
        case first =>
          cases bR
          · have hn3 := of_decide_eq_false HBR.out
            have e : n = 1 := by omega
            subst e
            go_wp2_with fail
            go_meet
            case rel => exact ⟨rfl, rfl⟩
          · have hn3 := of_decide_eq_true HBR.out
            have p1 := eq_true (show n - 1 > 0 by omega)
            have p1' := eq_true (show 0 < n - 1 by omega)
            have p4 := eq_true hn3
            go_wp2_with fail
            go_meet
            case rel => exact ⟨rfl, rfl⟩
        case rest =>
          obtain ⟨rfl, rfl⟩ := hcut
          go_upto_if 92 with fail
          go_cut [0, 20, 21] from 93 to 119 (fun v _ _ wx => Buf w0 wx v (sgl neg ++ [c] ++ (if r = [] then [] else 46 :: r)) b (c :: r))
          case first =>
            cases bR
            · have hn3 := of_decide_eq_false HBR.out
              have hr : r = [] := List.length_eq_zero_iff.1 (by have := HN.out; omega)
              have HRN := Aside0.mk hr
              clear hr hn3
              go_wp2_with fail
              go_meet
              case rel => rw [if_pos HRN.out, List.append_nil]; exact HB.out
            · have hn3 := of_decide_eq_true HBR.out
              have hr : r ≠ [] := fun e => by have := HN.out; rw [e] at this; simp at this; omega
              have p2 : min n n = n := Int.min_self n
              have p3 : n - 1 + 1 = n := by omega
              have p4 := eq_true hn3
              have HRN := Aside0.mk hr
              clear hr hn3
              go_wp2_with (first | ((at_builtin; refine buf_app HB.out _ _ _ rfl rfl rfl rfl (by have := HSG.out; first | omega | (simp only [List.length_append, List.length_cons, List.length_nil]; omega) | simp) ?_); intro v1 w1 nB; clear HB; have HB := Aside0.mk nB; clear nB) | ((at_builtin; refine buf_row HB.out _ _ r (some ⟨b, 1, none⟩) (n.toNat - 1) 31 (buf_tail HB.out HR.out HN.out) rfl rfl rfl rfl (by have := HSG.out; simp only [List.length_append, List.length_cons, List.length_nil]; omega) (by omega) ?_); intro v1 w1 nB; clear HB; have HB := Aside0.mk nB; clear nB))
              refine wp_loop_rounds 1 ?_
              rw [rounds_succ]
              go_wp2_with fail
              go_meet
              case rel => rw [if_neg HRN.out, List.append_cons]; exact HB.out
          case rest =>
            clear HB hlt HBR
            have HB := Aside0.mk hcut
            have hP : (sgl neg ++ [c] ++ (if r = [] then [] else 46 :: r)).length ≤ 30 := by
              have := HSG.out
              have := HR.out
              split <;> simp only [List.length_append, List.length_cons, List.length_nil] <;> omega
            clear hcut
            obtain ⟨P, hPe⟩ : ∃ P, sgl neg ++ [c] ++ (if r = [] then [] else 46 :: r) = P := ⟨_, rfl⟩
            rw [hPe] at hP HB
            have HPE := Aside0.mk hPe
            have HSG := Aside0.mk hP
            clear hP hPe
            have q3 : (n == 0) = false := beq_eq_false_iff_ne.2 (by omega)
            obtain ⟨bN, hbN⟩ : ∃ bN : Bool, decide (dp - 1 < 0) = bN := ⟨_, rfl⟩
            have HBN := Aside0.mk hbN
            obtain ⟨X, hX⟩ : ∃ X : Int, (if dp - 1 < 0 then -(dp - 1) else dp - 1) = X := ⟨_, rfl⟩
            have hX0 : 0 ≤ X := by rw [← hX]; split <;> omega
            have hX1 : X ≤ 401 := by rw [← hX]; split <;> omega
            have HX := Aside0.mk hX
            clear hbN hX
            go_upto_region 41 with ((at_builtin; refine buf_app HB.out _ _ _ rfl rfl rfl rfl (by have := HSG.out; first | omega | (simp only [List.length_append, List.length_cons, List.length_nil]; omega) | simp) ?_); intro v1 w1 nB; clear HB; have HB := Aside0.mk nB; clear nB)
            go_cut [129] from 128 to 129 (fun c wx => c = .bool bN ∧ w1 = wx)
            case first =>
              cases bN
              · have p := eq_false (of_decide_eq_false HBN.out)
                go_wp2_with fail
                go_meet
                case rel => exact ⟨rfl, rfl⟩
              · have p := eq_true (of_decide_eq_true HBN.out)
                go_wp2_with fail
                go_meet
                case rel => exact ⟨rfl, rfl⟩
            case rest =>
              obtain ⟨rfl, rfl⟩ := hcut
              clear q3
              go_upto_if 129 with fail
              go_cut [19, 22] from 130 to 131 (fun ch x wx => ch = .int .u8 (if dp - 1 < 0 then 45 else 43) ∧ x = .int .i64 X ∧ w1 = wx)
              case first =>
                cases bN
                · have p := of_decide_eq_false HBN.out
                  have E : X = dp - 1 := by rw [← HX.out, if_neg p]
                  have E' := Aside0.mk E
                  have P' := Aside0.mk p
                  clear E p
                  go_wp2_with fail
                  go_meet
                  case rel => exact ⟨by rw [if_neg (Int.not_lt.2 P'.out)], by rw [E'.out], rfl⟩
                · have p := of_decide_eq_true HBN.out
                  have E : X = -(dp - 1) := by rw [← HX.out, if_pos p]
                  have E' := Aside0.mk E
                  have P' := Aside0.mk p
                  clear E p
                  go_wp2_with fail
                  go_meet
                  case rel => exact ⟨by rw [if_pos P'.out], by rw [E'.out], rfl⟩
              case rest =>
                obtain ⟨rfl, rfl, rfl⟩ := hcut
                obtain ⟨C, hC⟩ : ∃ C : Int, (if dp - 1 < 0 then (45 : Int) else 43) = C := ⟨_, rfl⟩
                rw [hC]
                have HF : Aside0 (txE neg c r dp = P ++ [101] ++ [C] ++ exps X) := ⟨by
                  unfold txE
                  rw [HPE.out, ← HX.out, ← hC]
                  split <;> simp⟩
                clear hC HX HBN HPE
                rcases (show X < 10 ∨ (10 ≤ X ∧ X < 100) ∨ 100 ≤ X by omega) with g | g | g
                · have E := Aside0.mk (show exps X = [48, X + 48] from if_pos g)
                  have p := eq_true g
                  go_wp2_with (first | ((at_builtin; refine buf_app HB.out _ _ _ rfl rfl rfl rfl (by have := HSG.out; first | omega | (simp only [List.length_append, List.length_cons, List.length_nil]; omega) | simp) ?_); intro v1 w1 nB; clear HB; have HB := Aside0.mk nB; clear nB) | ((at_builtin; refine buf_lits HB.out _ _ [48, X + 48] _ rfl rfl rfl rfl rfl (by have := HSG.out; simp only [List.length_append, List.length_cons, List.length_nil]; omega) (by simp only [List.length_cons, List.length_nil]; omega) ?_); intro v1 w1 nB; clear HB; have HB := Aside0.mk nB; clear nB))
                  go_ret
                  exact ⟨_, rfl, by rw [HF.out, E.out]; exact HB.out⟩
                · have E := Aside0.mk (show exps X = [X / 10 + 48, X % 10 + 48] by unfold exps; rw [if_neg (by omega), if_pos g.2])
                  have p := eq_false (show ¬ X < 10 by omega)
                  have p2 := eq_true g.2
                  have t1 : Int.tdiv X 10 = X / 10 := Int.tdiv_eq_ediv_of_nonneg hX0
                  have t2 : Int.tmod X 10 = X % 10 := Int.tmod_eq_emod_of_nonneg hX0
                  go_wp2_with (first | ((at_builtin; refine buf_app HB.out _ _ _ rfl rfl rfl rfl (by have := HSG.out; first | omega | (simp only [List.length_append, List.length_cons, List.length_nil]; omega) | simp) ?_); intro v1 w1 nB; clear HB; have HB := Aside0.mk nB; clear nB) | ((at_builtin; refine buf_lits HB.out _ _ [X / 10 + 48, X % 10 + 48] _ rfl rfl rfl rfl rfl (by have := HSG.out; simp only [List.length_append, List.length_cons, List.length_nil]; omega) (by simp only [List.length_cons, List.length_nil]; omega) ?_); intro v1 w1 nB; clear HB; have HB := Aside0.mk nB; clear nB))
                  go_ret
                  exact ⟨_, rfl, by rw [HF.out, E.out]; exact HB.out⟩
                · have E := Aside0.mk (show exps X = [X / 100 + 48, X / 10 % 10 + 48, X % 10 + 48] by unfold exps; rw [if_neg (by omega), if_neg (by omega)])
                  have p := eq_false (show ¬ X < 10 by omega)
                  have p2 := eq_false (show ¬ X < 100 by omega)
                  have t1 : Int.tdiv X 10 = X / 10 := Int.tdiv_eq_ediv_of_nonneg hX0
                  have t2 : Int.tmod X 10 = X % 10 := Int.tmod_eq_emod_of_nonneg hX0
                  have t3 : Int.tdiv X 100 = X / 100 := Int.tdiv_eq_ediv_of_nonneg hX0
                  go_wp2_with (first | ((at_builtin; refine buf_app HB.out _ _ _ rfl rfl rfl rfl (by have := HSG.out; first | omega | (simp only [List.length_append, List.length_cons, List.length_nil]; omega) | simp) ?_); intro v1 w1 nB; clear HB; have HB := Aside0.mk nB; clear nB) | ((at_builtin; refine buf_lits HB.out _ _ [X / 100 + 48, X / 10 % 10 + 48, X % 10 + 48] _ rfl rfl rfl rfl rfl (by have := HSG.out; simp only [List.length_append, List.length_cons, List.length_nil]; omega) (by simp only [List.length_cons, List.length_nil]; omega) ?_); intro v1 w1 nB; clear HB; have HB := Aside0.mk nB; clear nB))
                  go_ret
                  exact ⟨_, rfl, by rw [HF.out, E.out]; exact HB.out⟩
end Go.Proofs.YtjniglmijikojaaGreatDoor.Text
