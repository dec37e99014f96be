/- The document's Box: its contract. No conditions. -/
import Derived.Test.YtiblkbkdfebfbaaMySubRef
import Derived.Test.YtiblkbkdfebfbaaMyArr
import Derived.Laws.AppendOwn
import Derived.OwnWalk
namespace Go.Proofs.Ytiblkbkdfebfbaa.Aes
open Go.RowKit Go.Proofs.Ytiblkbkdfebfbaa.Own

def subs (k : Nat) : List Value := (List.range k).map (fun i => Value.int .u8 ((sub (BitVec.ofNat 8 i)).toNat : Int))
theorem subs_succ (k : Nat) : subs (k + 1) = subs k ++ [Value.int .u8 ((sub (BitVec.ofNat 8 k)).toNat : Int)] := by
  simp [subs, List.range_succ]
theorem info5 : (Try.prog.info? 5).map (fun i => (i.zero, i.size, i.bytes)) = some (some (.int .u8 0), 1, 1) := by kernel_rfl

theorem own_keep {w w1 : World} {b e s n : Nat} {v : Value} {xs : List Value} (h : w.ownsRow b e s v n xs) (hb : Below w.heap.size w w1) : w1.ownsRow b e s v n xs := by
  refine ⟨h.1, ?_⟩
  rcases h.2 with hn | ⟨g, cap, cur, hv, hbg, hg, rest⟩
  · exact .inl hn
  · exact .inr ⟨g, cap, cur, hv, hbg, (hb.block g (Array.getElem?_eq_some_iff.1 hg).1).trans hg, rest⟩

set_option maxRecDepth 30000 in
set_option maxHeartbeats 4000000 in
theorem boxref_any (w : World) : Calls Try.prog 14 #[] w fun e w' => ∃ v, e = .returned v ∧ w'.ownsRow w.heap.size 5 1 v 256 (subs 256) ∧ Below w.heap.size w w' := by
  obtain ⟨i0, hi, hz0, hz1, hz2⟩ := info_parts info5
  go_enter Try.func14, Try.ntmps14
  go_wp2
  go_loopw [1, 2] (fun v i wr => ∃ k : Nat, k ≤ 256 ∧ i = .int .i64 (k : Int) ∧ wr.ownsRow w.heap.size 5 1 v k (subs k) ∧ Below w.heap.size w wr) (fun _ i _ => 256 - (RowKit.intOf i).toNat)
  case atStart => exact ⟨0, by omega, rfl, World.ownsRow_nil _ _ _ _, Below.refl _ _⟩
  case round =>
    obtain ⟨k, hk, rfl, hown, hb⟩ := hrel
    by_cases h6 : k < 256
    · have hk6 : (k : Int) < 256 := by omega
      have hm6 : (k : Int) % 256 = (k : Int) := by omega
      have hs := fun w => sub_any (BitVec.ofNat 8 k) w
      rw [show (BitVec.ofNat 8 k).toNat = k by rw [BitVec.toNat_ofNat]; omega] at hs
      have HN := Aside0.mk (subs_succ k)
      generalize sub (BitVec.ofNat 8 k) = S at *
      have HS := Aside0.mk hs
      have HO := Aside0.mk hown
      have HB := Aside0.mk hb
      clear hs hown hb
      go_wp2_with (first
        | ((go_at_call 20; with_reducible refine (HS.out _).mono ?_); rintro e w1 ⟨rfl, hb1⟩; have HB1 := Aside0.mk (HB.out.trans (hb1.mono HB.out.size)); have HO1 := Aside0.mk (own_keep HO.out hb1); clear hb1)
        | (at_builtin; refine wpList_append_own _ rfl (.tmp 7) (.tmp 11) 34 rfl w.heap.size 5 i0 (.int .u8 0) 1 1 Try.underlying34 hi hz0 hz1 hz2 rfl (by decide) u1 k (subs k) rfl (HO1.out.alloc _) ⟨w1.heap.size, 0, none⟩ 1 1 [.int .u8 (S.toNat : Int)] rfl rfl ?c1 ?c2 ?c3 ?c4 ?c5 ?_))
      case c1 =>
        intro j u hj
        match j, hj with
        | 0, hj => simp at hj; subst hj; simp [Addr.add]
      case c2 => intro u hu; simp at hu; subst hu; rfl
      case c3 => unfold maxLen; omega
      case c4 => omega
      case c5 => have := HB1.out.size; simp; omega
      intro v' w2 hown' hgrow _
      have HO2 := Aside0.mk hown'
      have HG2 := Aside0.mk hgrow
      clear hown' hgrow
      go_wp2
      go_roundw
      case rel => exact ⟨k + 1, by omega, by go_num, by rw [HN.out]; exact HO2.out, (HB1.out.alloc HB1.out.size _).grown HG2.out (by have := HB1.out.size; simp; omega) (fun j hj => (HO.out.lt j hj).1)⟩
      case measure =>
        simp [RowKit.intOf]
        omega
    · obtain rfl : k = 256 := by omega
      have HO := Aside0.mk hown
      have HB := Aside0.mk hb
      clear hown hb h6 hk
      go_wp2
      go_ret
      exact ⟨_, rfl, HO.out, HB.out⟩
end Go.Proofs.Ytiblkbkdfebfbaa.Aes
