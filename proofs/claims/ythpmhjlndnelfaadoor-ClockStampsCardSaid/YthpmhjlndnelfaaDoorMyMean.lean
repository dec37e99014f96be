/- Mean of the clock. The conditions: at most 100 numbers, each of 64 bits. -/
import Derived.Test.YthpmhjlndnelfaaDoorMyWholes
import Derived.Test.YthpmhjlndnelfaaDoorMyRatios
import Derived.Test.YthpmhjlndnelfaaDoorOwnSum
namespace Go.Proofs.YthpmhjlndnelfaaDoor.Real
open Go.RowKit Go.Lib Go.Proofs.YthpmhjlndnelfaaDoorW.PrintWords

def Nums (k : IntKind) (w : World) (A : Option Addr) (l : List Int) : Prop := ∀ i s, l[i]? = some s → ∃ ad, A = some ad ∧ w.cell? (ad.add i) = some (.int k s)

theorem Nums.below {k : IntKind} {w w1 : World} {A : Option Addr} {l : List Int} (h : Nums k w A l) (hb : Below w.heap.size w w1) : Nums k w1 A l := by
  intro i s hi
  obtain ⟨ad, had, hc⟩ := h i s hi
  exact ⟨ad, had, pw_cell_below hb hc⟩

theorem run_plus (a b c : Nat) (h : Ieee.double.add a b = some c) (W : World) : (binOp .add 22 (.float .f64 a) (.float .f64 b)).run Tryd.prog W = .ok (.float .f64 c) W := by
  have h' : FloatKind.f64.format.add a b = some c := h
  simp [binOp, Op.floatArith, h']

def SumRel (l : List Int) (s i : Value) : Prop := ∃ k : Nat, k ≤ l.length ∧ s = .float .f64 (sumF (l.take k)) ∧ i = .int .i64 (k : Int)

theorem sum_step (l : List Int) (k : Nat) (h : k < l.length) (W : World) :
    (binOp .add 22 (.float .f64 (sumF (l.take k))) (.float .f64 (nr l[k].toNat 0))).run Tryd.prog W = .ok (.float .f64 (sumF (l.take (k + 1)))) W := by
  have e : l.take (k + 1) = l.take k ++ [l[k]] := (List.take_append_getElem h).symm
  rw [e, sumF_snoc]
  exact run_plus _ _ _ (addF_good _ _ (sumF_good _)).1 W

theorem conv_in (z : Int) (h : 0 ≤ z) (W : World) : (convert 29 22 (.int .u64 z)).run Tryd.prog W = .ok (.float .f64 (nr z.toNat 0)) W := by
  have := conv_at z.toNat W
  rw [Int.toNat_of_nonneg h] at this
  exact this

theorem conv_len (x : Nat) (W : World) : (convert 3 22 (.int .i64 (x : Int))).run Tryd.prog W = .ok (.float .f64 (nr x 0)) W := by
  have h := run_convert_int_float (P := Tryd.prog) W 3 22 .i64 .f64 (x : Int) (by rw [Tryd.underlying3]; rfl) Tryd.underlying22
  rw [h]
  have e : floatOfInt .f64 (x : Int) = Ieee.double.write (.number (decide ((x : Int) < 0)) (x : Int).natAbs 0) := rfl
  rw [e]
  simp only [Ieee.Format.write]
  rw [decide_eq_false (show ¬ (x : Int) < 0 by omega), nearest_nr, Int.natAbs_natCast, word_of, if_neg (by simp)]

def MeanOf (l : List Int) (r : Nat) : Prop := (l = [] ∧ nan r = true ∧ r < 18446744073709551616) ∨ (l ≠ [] ∧ Ieee.double.div (sumF l) (nr l.length 0) = some r ∧ r < 18446744073709551616 ∧ nan r = false)

set_option maxHeartbeats 2000000 in
theorem mean_nums (A : Option Addr) (l : List Int) (c : Nat) (w : World) (hl : l.length ≤ 100) (hc : l.length ≤ c) (ta : Nums .u64 w A l) (wa : ∀ x ∈ l, 0 ≤ x) :
    Calls Tryd.prog 23 #[.slice A l.length c] w fun e w' => ∃ r, e = .returned (.float .f64 r) ∧ MeanOf l r ∧ Below w.heap.size w w' := by
  have TA := Aside0.mk ta
  have WA := Aside0.mk wa
  clear ta wa
  go_enter Tryd.func23, Tryd.ntmps23
  go_wp2
  go_loop [3, 8] (fun s i => SumRel l s i) (fun _ i => l.length - (RowKit.intOf i).toNat)
  case atStart => exact ⟨0, Nat.zero_le _, rfl, rfl⟩
  case round =>
    obtain ⟨k, hk, rfl, rfl⟩ := hrel
    by_cases hlt : k < l.length
    · obtain ⟨ad, rfl, hx⟩ := TA.out k l[k] (List.getElem?_eq_getElem hlt)
      have hcv := fun W => conv_in l[k] (WA.out _ (List.getElem_mem hlt)) W
      have hst := fun W => sum_step l k hlt W
      generalize hN : l[k] = N at hx hcv hst
      clear hN
      generalize nr N.toNat 0 = q at hcv hst
      generalize hs : sumF (l.take (k + 1)) = s1 at hst
      have HS := Aside0.mk hs
      clear hs
      generalize sumF (l.take k) = s0 at hst
      go_wp2
      go_round
      case rel => exact ⟨k + 1, hlt, by rw [HS.out], by go_num⟩
      case measure => simp [RowKit.intOf]; omega
    · obtain rfl : k = l.length := by omega
      rw [List.take_length]
      have hcl := fun W => conv_len l.length W
      by_cases h0 : l = []
      · subst h0
        have hd := fun W => run_div_none 0 0 div_zeros W
        have e0 : sumF [] = 0 := rfl
        rw [e0]
        have hf0 : floatOfInt .f64 0 = 0 := by decide +kernel
        clear hcl
        go_wp2
        go_ret
        exact ⟨_, rfl, .inl ⟨rfl, nanC_nan _ _ _, nanC_lt _ _ _⟩, by repeat (first | exact Below.refl _ _ | apply below_drew1)⟩
      · have hn0 : l.length ≠ 0 := by simpa using h0
        obtain ⟨q, h1, h2, h3⟩ := div_good (sumF l) l.length (sumF_good l) hn0 (by omega)
        have hd := fun W => run_div _ _ _ h1 W
        have HM : Aside0 (MeanOf l q) := ⟨.inr ⟨h0, h1, h2, h3⟩⟩
        clear h1
        generalize sumF l = s0 at hd
        generalize nr l.length 0 = y at hd hcl
        go_wp2
        go_ret
        exact ⟨_, rfl, HM.out, by repeat (first | exact Below.refl _ _ | apply below_drew1)⟩
end Go.Proofs.YthpmhjlndnelfaaDoor.Real
