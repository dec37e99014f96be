/- RealBytes: the walk of the law. The conditions: 64 bits; the tables are laid. -/
import Derived.Test.YthpmhjlndnelfaaDoorMyOf
import Derived.Test.YthpmhjlndnelfaaDoorMyRef2
namespace Go.Proofs.YthpmhjlndnelfaaDoor.Real
open Go.RowKit Go.Lib Go.Proofs.YthpmhjlndnelfaaDoorW.PrintWords Go.Proofs.YthpmhjlndnelfaaDoorW.PrintLast
open Go.Proofs.YthpmhjlndnelfaaDoor.Own

theorem back_a (a : Nat) (ha : a < 18446744073709551616) : enc (dec (enc a)) = enc a ∧ cp (dec (enc a)) a = 0 := by
  have h := dec_enc a ha
  cases hn : nan a with
  | false => rw [h.1 hn]; exact ⟨rfl, ci_eq rfl⟩
  | true =>
    rw [h.2 hn]
    have e0 : enc a = 0 := by unfold enc; rw [if_pos hn]
    refine ⟨by rw [e0, enc_nan], ci_eq ?_⟩
    unfold tk
    rw [hn, nan_nan]
    rfl

theorem of_ok (s : ByteArray) (n x : Nat) (hs : s.size = 8) (hv : val s.data.toList = n) (hn : n < 18446744073709551616) (hx : dec n = x) (he : enc x = n) (w : World) :
    Calls Tryd.prog 37 #[.string s] w fun e w' => e = .returned (.tuple #[.float .f64 x, .int .i64 0]) ∧ Below w.heap.size w w' :=
  (of_run s n x hs hv hn hx w).mono fun _ _ h => h.1 he
theorem of_bad (s : ByteArray) (n x : Nat) (hs : s.size = 8) (hv : val s.data.toList = n) (hn : n < 18446744073709551616) (hx : dec n = x) (he : enc x ≠ n) (w : World) :
    Calls Tryd.prog 37 #[.string s] w fun e w' => e = .returned (.tuple #[.float .f64 0, .int .i64 4]) ∧ Below w.heap.size w w' :=
  (of_run s n x hs hv hn hx w).mono fun _ _ h => h.2 he
theorem of_none (s : ByteArray) (hs : s.size ≠ 8) (w : World) : Calls Tryd.prog 37 #[.string s] w fun e w' => e = .returned (.tuple #[.float .f64 0, .int .i64 4]) ∧ Below w.heap.size w w' := of_no s hs w

theorem bytes_long (a b : Nat) (s : ByteArray) (h : 20 < s.size) (h2 : s.size ≤ 140737488351232) (w : World) (ht : Tabs w) :
    Calls Tryd.prog 10 #[.float .f64 a, .float .f64 b, .string s] w fun e w' => e = .returned (.bool true) ∧ Below w.heap.size w w' := by
  have HT := Aside0.mk ht
  clear ht
  go_enter Tryd.func10, Tryd.ntmps10
  go_wp2_with (go_at_call 14; refine (awake02 _ HT.out).mono ?_; rintro e w1 ⟨rfl, hb1⟩; have HB1 := Aside0.mk hb1; clear hb1)
  go_ret
  exact ⟨rfl, HB1.out⟩

theorem ord_zero : FloatKind.f64.format.order 0 0 = some Ordering.eq := by decide +kernel

structure BFacts (a b : Nat) (p q : ByteArray) (x : Nat) (r : Int) : Prop where
  pa : ∀ w, Calls Tryd.prog 36 #[.float .f64 a] w fun e w' => e = .returned (.string p) ∧ Below w.heap.size w w'
  pb : ∀ w, Calls Tryd.prog 36 #[.float .f64 b] w fun e w' => e = .returned (.string q) ∧ Below w.heap.size w w'
  ofp : ∀ w, Calls Tryd.prog 37 #[.string p] w fun e w' => e = .returned (.tuple #[.float .f64 x, .int .i64 0]) ∧ Below w.heap.size w w'
  ra : ∀ w, Calls Tryd.prog 38 #[.float .f64 a] w fun e w' => e = .returned (.string p) ∧ Below w.heap.size w w'
  sa : ∀ w, Calls Tryd.prog 19 #[.float .f64 x, .float .f64 a] w fun e w' => e = .returned (.bool ((0 : Int) == 0)) ∧ w = w'
  co : ∀ w, Calls Tryd.prog 39 #[.string p, .string q] w fun e w' => e = .returned (.int .i64 r) ∧ w = w'
  cm : ∀ w, Calls Tryd.prog 16 #[.float .f64 a, .float .f64 b] w fun e w' => e = .returned (.int .i64 r) ∧ w = w'

theorem bfacts (a b : Nat) (ha : a < 18446744073709551616) (hb : b < 18446744073709551616) : ∃ p q x r, BFacts a b p q x r := by
  obtain ⟨h1, h2⟩ := back_a a ha
  refine ⟨P8 (enc a), P8 (enc b), dec (enc a), cp a b, ?_, ?_, ?_, ?_, ?_, ?_, ?_⟩
  · exact fun w => bytes_at a _ ha rfl w
  · exact fun w => bytes_at b _ hb rfl w
  · exact fun w => of_ok _ (enc a) _ (P8_size _) (P8_val _ (enc_lt a ha)) (enc_lt a ha) rfl h1 w
  · exact fun w => rbytes_at a _ ha rfl w
  · exact fun w => same_at _ a 0 (dec_lt _ (enc_lt a ha)) ha h2 w
  · exact fun w => compare8 _ _ _ (enc_lt a ha) (enc_lt b hb) (enc_cp a b ha hb) _ _ rfl rfl w
  · exact fun w => cmp_at a b _ ha hb rfl w

set_option maxRecDepth 100000 in
set_option maxHeartbeats 2000000 in
theorem bytes_t1 (a b : Nat) (s p q : ByteArray) (x0 : Nat) (r : Int) (hf : BFacts a b p q x0 r) (y : Nat) (hs : s.size = 8) (ho : ∀ w, Calls Tryd.prog 37 #[.string s] w fun e w' => e = .returned (.tuple #[.float .f64 y, .int .i64 0]) ∧ Below w.heap.size w w') (hy : ∀ w, Calls Tryd.prog 36 #[.float .f64 y] w fun e w' => e = .returned (.string s) ∧ Below w.heap.size w w') (w : World) (ht : Tabs w) :
    Calls Tryd.prog 10 #[.float .f64 a, .float .f64 b, .string s] w fun e w' => e = .returned (.bool true) ∧ Below w.heap.size w w' := by
  have HT := Aside0.mk ht
  have HF := Aside0.mk hf
  have hrr : (r == r) = true := beq_self_eq_true r
  have hoz := ord_zero
  have HO := Aside0.mk ho
  have HY := Aside0.mk hy
  have hsz : (s.size : Int) ≤ 20 := by omega
  clear ho hy hs
  clear ht hf
  go_enter Tryd.func10, Tryd.ntmps10
  go_wp2_with (first
        | (go_at_call 14; refine (awake02 _ HT.out).mono ?_; rintro e w1 ⟨rfl, hb⟩; have HB1 := Aside0.mk hb; clear hb)
        | ((go_at_call 36; with_reducible refine (HF.out.pa _).mono ?_); rintro e w2 ⟨rfl, hb⟩; have HB2 := Aside0.mk (HB1.out.trans (hb.mono HB1.out.size)); clear hb)
        | ((go_at_call 36; with_reducible refine (HF.out.pb _).mono ?_); rintro e w3 ⟨rfl, hb⟩; have HB3 := Aside0.mk (HB2.out.trans (hb.mono HB2.out.size)); clear hb)
        | ((go_at_call 37; with_reducible refine (HF.out.ofp _).mono ?_); rintro e w4 ⟨rfl, hb⟩; have HB4 := Aside0.mk (HB3.out.trans (hb.mono HB3.out.size)); clear hb)
        | ((go_at_call 37; with_reducible refine (HO.out _).mono ?_); rintro e w5 ⟨rfl, hb⟩; have HB5 := Aside0.mk (HB4.out.trans (hb.mono HB4.out.size)); clear hb)
        | ((go_at_call 38; with_reducible refine (HF.out.ra _).mono ?_); rintro e w6 ⟨rfl, hb⟩; have HB6 := Aside0.mk (HB5.out.trans (hb.mono HB5.out.size)); clear hb)
        | ((go_at_call 19; with_reducible refine (HF.out.sa _).mono ?_); rintro e w' ⟨rfl, rfl⟩)
        | ((go_at_call 39; with_reducible refine (HF.out.co _).mono ?_); rintro e w' ⟨rfl, rfl⟩)
        | ((go_at_call 16; with_reducible refine (HF.out.cm _).mono ?_); rintro e w' ⟨rfl, rfl⟩)
        | ((go_at_call 36; with_reducible refine (HY.out _).mono ?_); rintro e w7 ⟨rfl, hb⟩; have HB7 := Aside0.mk (HB6.out.trans (hb.mono HB6.out.size)); clear hb))
  go_ret
  exact ⟨rfl, HB7.out⟩

set_option maxRecDepth 100000 in
set_option maxHeartbeats 2000000 in
theorem bytes_t2 (a b : Nat) (s p q : ByteArray) (x0 : Nat) (r : Int) (hf : BFacts a b p q x0 r) (n x : Nat) (hs : s.size = 8) (ho : ∀ w, Calls Tryd.prog 37 #[.string s] w fun e w' => e = .returned (.tuple #[.float .f64 0, .int .i64 4]) ∧ Below w.heap.size w w') (hg : ∀ w, Calls Tryd.prog 40 #[.string s] w fun e w' => e = .returned (.int .u64 (n : Int)) ∧ Below w.heap.size w w') (hn : n < 18446744073709551616) (h1 : 9223372036854775808 ≤ n) (hx : rg n = x) (hi : ∀ w, Calls Tryd.prog 27 #[.float .f64 x] w fun e w' => e = .returned (.bool true) ∧ w = w') (w : World) (ht : Tabs w) :
    Calls Tryd.prog 10 #[.float .f64 a, .float .f64 b, .string s] w fun e w' => e = .returned (.bool true) ∧ Below w.heap.size w w' := by
  have HT := Aside0.mk ht
  have HF := Aside0.mk hf
  have hrr : (r == r) = true := beq_self_eq_true r
  have hoz := ord_zero
  have HO := Aside0.mk ho
  have HG := Aside0.mk hg
  have HI := Aside0.mk hi
  have hsz : (s.size : Int) = 8 := by omega
  have hadn := bandnot n hn
  rw [hx] at hadn
  have h41 : ∀ W, (callFunc 41 #[.int .u64 (x : Int)]).run Tryd.prog W = .ok (.value (.float .f64 x)) W := fun W => by rw [f41, Int.toNat_natCast]
  have d1 : decide ((n : Int) > 0) = true := decide_eq_true (by omega)
  have d2 : decide ((n : Int) ≥ 9223372036854775808) = true := decide_eq_true (by omega)
  have hp : 0 < n := by omega
  have hq : (9223372036854775808 : Int) ≤ (n : Int) := by omega
  clear ho hg hi hs hx
  clear ht hf
  go_enter Tryd.func10, Tryd.ntmps10
  go_wp2_with (first
        | (go_at_call 14; refine (awake02 _ HT.out).mono ?_; rintro e w1 ⟨rfl, hb⟩; have HB1 := Aside0.mk hb; clear hb)
        | ((go_at_call 36; with_reducible refine (HF.out.pa _).mono ?_); rintro e w2 ⟨rfl, hb⟩; have HB2 := Aside0.mk (HB1.out.trans (hb.mono HB1.out.size)); clear hb)
        | ((go_at_call 36; with_reducible refine (HF.out.pb _).mono ?_); rintro e w3 ⟨rfl, hb⟩; have HB3 := Aside0.mk (HB2.out.trans (hb.mono HB2.out.size)); clear hb)
        | ((go_at_call 37; with_reducible refine (HF.out.ofp _).mono ?_); rintro e w4 ⟨rfl, hb⟩; have HB4 := Aside0.mk (HB3.out.trans (hb.mono HB3.out.size)); clear hb)
        | ((go_at_call 37; with_reducible refine (HO.out _).mono ?_); rintro e w5 ⟨rfl, hb⟩; have HB5 := Aside0.mk (HB4.out.trans (hb.mono HB4.out.size)); clear hb)
        | ((go_at_call 38; with_reducible refine (HF.out.ra _).mono ?_); rintro e w6 ⟨rfl, hb⟩; have HB6 := Aside0.mk (HB5.out.trans (hb.mono HB5.out.size)); clear hb)
        | ((go_at_call 19; with_reducible refine (HF.out.sa _).mono ?_); rintro e w' ⟨rfl, rfl⟩)
        | ((go_at_call 39; with_reducible refine (HF.out.co _).mono ?_); rintro e w' ⟨rfl, rfl⟩)
        | ((go_at_call 16; with_reducible refine (HF.out.cm _).mono ?_); rintro e w' ⟨rfl, rfl⟩)
        | ((go_at_call 40; with_reducible refine (HG.out _).mono ?_); rintro e w7 ⟨rfl, hb⟩; have HB7 := Aside0.mk (HB6.out.trans (hb.mono HB6.out.size)); clear hb)
        | ((go_at_call 27; with_reducible refine (HI.out _).mono ?_); rintro e w' ⟨rfl, rfl⟩))
  go_ret
  exact ⟨rfl, HB7.out⟩

set_option maxRecDepth 100000 in
set_option maxHeartbeats 2000000 in
theorem bytes_t3 (a b : Nat) (s p q : ByteArray) (x0 : Nat) (r : Int) (hf : BFacts a b p q x0 r) (n x : Nat) (hs : s.size = 8) (ho : ∀ w, Calls Tryd.prog 37 #[.string s] w fun e w' => e = .returned (.tuple #[.float .f64 0, .int .i64 4]) ∧ Below w.heap.size w w') (hg : ∀ w, Calls Tryd.prog 40 #[.string s] w fun e w' => e = .returned (.int .u64 (n : Int)) ∧ Below w.heap.size w w') (hn : n < 18446744073709551616) (h0 : n ≠ 0) (h1 : n < 9223372036854775808) (hx : 18446744073709551615 - n = x) (hi : ∀ w, Calls Tryd.prog 27 #[.float .f64 x] w fun e w' => e = .returned (.bool true) ∧ w = w') (w : World) (ht : Tabs w) :
    Calls Tryd.prog 10 #[.float .f64 a, .float .f64 b, .string s] w fun e w' => e = .returned (.bool true) ∧ Below w.heap.size w w' := by
  have HT := Aside0.mk ht
  have HF := Aside0.mk hf
  have hrr : (r == r) = true := beq_self_eq_true r
  have hoz := ord_zero
  have HO := Aside0.mk ho
  have HG := Aside0.mk hg
  have HI := Aside0.mk hi
  have hsz : (s.size : Int) = 8 := by omega
  have hnot := bnotm n hn
  rw [hx] at hnot
  have hux : Op.unary .xor (.int .u64 (n : Int)) = pure (.int .u64 (x : Int)) := by
    have : Op.unary .xor (.int .u64 (n : Int)) = pure (.int .u64 (Go.bits .xor .u64 IntKind.u64.max (n : Int))) := rfl
    rw [this, hnot]
  have h41 : ∀ W, (callFunc 41 #[.int .u64 (x : Int)]).run Tryd.prog W = .ok (.value (.float .f64 x)) W := fun W => by rw [f41, Int.toNat_natCast]
  have d1 : decide ((n : Int) > 0) = true := decide_eq_true (by omega)
  have d2 : decide ((n : Int) ≥ 9223372036854775808) = false := decide_eq_false (by omega)
  have d3 : decide ((n : Int) < 9223372036854775808) = true := decide_eq_true (by omega)
  have hp : 0 < n := by omega
  have hq : (n : Int) < 9223372036854775808 := by omega
  clear ho hg hi hs hx hnot
  clear ht hf
  go_enter Tryd.func10, Tryd.ntmps10
  go_wp2_with (first
        | (go_at_call 14; refine (awake02 _ HT.out).mono ?_; rintro e w1 ⟨rfl, hb⟩; have HB1 := Aside0.mk hb; clear hb)
        | ((go_at_call 36; with_reducible refine (HF.out.pa _).mono ?_); rintro e w2 ⟨rfl, hb⟩; have HB2 := Aside0.mk (HB1.out.trans (hb.mono HB1.out.size)); clear hb)
        | ((go_at_call 36; with_reducible refine (HF.out.pb _).mono ?_); rintro e w3 ⟨rfl, hb⟩; have HB3 := Aside0.mk (HB2.out.trans (hb.mono HB2.out.size)); clear hb)
        | ((go_at_call 37; with_reducible refine (HF.out.ofp _).mono ?_); rintro e w4 ⟨rfl, hb⟩; have HB4 := Aside0.mk (HB3.out.trans (hb.mono HB3.out.size)); clear hb)
        | ((go_at_call 37; with_reducible refine (HO.out _).mono ?_); rintro e w5 ⟨rfl, hb⟩; have HB5 := Aside0.mk (HB4.out.trans (hb.mono HB4.out.size)); clear hb)
        | ((go_at_call 38; with_reducible refine (HF.out.ra _).mono ?_); rintro e w6 ⟨rfl, hb⟩; have HB6 := Aside0.mk (HB5.out.trans (hb.mono HB5.out.size)); clear hb)
        | ((go_at_call 19; with_reducible refine (HF.out.sa _).mono ?_); rintro e w' ⟨rfl, rfl⟩)
        | ((go_at_call 39; with_reducible refine (HF.out.co _).mono ?_); rintro e w' ⟨rfl, rfl⟩)
        | ((go_at_call 16; with_reducible refine (HF.out.cm _).mono ?_); rintro e w' ⟨rfl, rfl⟩)
        | ((go_at_call 40; with_reducible refine (HG.out _).mono ?_); rintro e w7 ⟨rfl, hb⟩; have HB7 := Aside0.mk (HB6.out.trans (hb.mono HB6.out.size)); clear hb)
        | ((go_at_call 27; with_reducible refine (HI.out _).mono ?_); rintro e w' ⟨rfl, rfl⟩))
  go_ret
  exact ⟨rfl, HB7.out⟩

set_option maxRecDepth 100000 in
set_option maxHeartbeats 2000000 in
theorem bytes_t4 (a b : Nat) (s p q : ByteArray) (x0 : Nat) (r : Int) (hf : BFacts a b p q x0 r) (hs : s.size ≠ 8) (hs2 : s.size ≤ 20) (ho : ∀ w, Calls Tryd.prog 37 #[.string s] w fun e w' => e = .returned (.tuple #[.float .f64 0, .int .i64 4]) ∧ Below w.heap.size w w') (w : World) (ht : Tabs w) :
    Calls Tryd.prog 10 #[.float .f64 a, .float .f64 b, .string s] w fun e w' => e = .returned (.bool true) ∧ Below w.heap.size w w' := by
  have HT := Aside0.mk ht
  have HF := Aside0.mk hf
  have hrr : (r == r) = true := beq_self_eq_true r
  have hoz := ord_zero
  have HO := Aside0.mk ho
  have hsz : (s.size : Int) ≤ 20 := by omega
  have hs8 : ((s.size : Int) == 8) = false := beq_eq_false_iff_ne.2 (by omega)
  clear ho hs hs2
  clear ht hf
  go_enter Tryd.func10, Tryd.ntmps10
  go_wp2_with (first
        | (go_at_call 14; refine (awake02 _ HT.out).mono ?_; rintro e w1 ⟨rfl, hb⟩; have HB1 := Aside0.mk hb; clear hb)
        | ((go_at_call 36; with_reducible refine (HF.out.pa _).mono ?_); rintro e w2 ⟨rfl, hb⟩; have HB2 := Aside0.mk (HB1.out.trans (hb.mono HB1.out.size)); clear hb)
        | ((go_at_call 36; with_reducible refine (HF.out.pb _).mono ?_); rintro e w3 ⟨rfl, hb⟩; have HB3 := Aside0.mk (HB2.out.trans (hb.mono HB2.out.size)); clear hb)
        | ((go_at_call 37; with_reducible refine (HF.out.ofp _).mono ?_); rintro e w4 ⟨rfl, hb⟩; have HB4 := Aside0.mk (HB3.out.trans (hb.mono HB3.out.size)); clear hb)
        | ((go_at_call 37; with_reducible refine (HO.out _).mono ?_); rintro e w5 ⟨rfl, hb⟩; have HB5 := Aside0.mk (HB4.out.trans (hb.mono HB4.out.size)); clear hb)
        | ((go_at_call 38; with_reducible refine (HF.out.ra _).mono ?_); rintro e w6 ⟨rfl, hb⟩; have HB6 := Aside0.mk (HB5.out.trans (hb.mono HB5.out.size)); clear hb)
        | ((go_at_call 19; with_reducible refine (HF.out.sa _).mono ?_); rintro e w' ⟨rfl, rfl⟩)
        | ((go_at_call 39; with_reducible refine (HF.out.co _).mono ?_); rintro e w' ⟨rfl, rfl⟩)
        | ((go_at_call 16; with_reducible refine (HF.out.cm _).mono ?_); rintro e w' ⟨rfl, rfl⟩))
  go_ret
  exact ⟨rfl, HB6.out⟩

set_option maxRecDepth 100000 in
theorem bytes_walk (a b : Nat) (s : ByteArray) (ha : a < 18446744073709551616) (hb : b < 18446744073709551616) (hs0 : s.size ≤ 140737488351232) (w : World) (ht : Tabs w) :
    Calls Tryd.prog 10 #[.float .f64 a, .float .f64 b, .string s] w fun e w' => e = .returned (.bool true) ∧ Below w.heap.size w w' := by
  by_cases h20 : s.size ≤ 20
  · obtain ⟨p, q, x0, r, hf⟩ := bfacts a b ha hb
    by_cases hs : s.size = 8
    · obtain ⟨n, hn⟩ : ∃ n, val s.data.toList = n := ⟨_, rfl⟩
      have hl : s.data.toList.length = 8 := by rw [Array.length_toList]; exact hs
      have hlt := val_lt s.data.toList
      rw [hl, hn] at hlt
      have hn64 : n < 18446744073709551616 := hlt
      by_cases he : enc (dec n) = n
      · refine bytes_t1 a b s p q x0 r hf (dec n) hs (fun w => of_ok s n _ hs hn hn64 rfl he w) (fun w => bytes_at _ _ (dec_lt n hn64) ?_ w) w ht
        rw [he, ← hn]
        exact P8_of s hs
      · obtain ⟨h0, hnan⟩ := dec_bad n hn64 he
        have hi := fun w => isnan_any (dec n) (dec_lt n hn64) w
        rw [hnan] at hi
        by_cases h1 : 9223372036854775808 ≤ n
        · refine bytes_t2 a b s p q x0 r hf n (dec n) hs (fun w => of_bad s n _ hs hn hn64 rfl he w) (fun w => rget8 s n hs hn w) hn64 h1 ?_ hi w ht
          unfold dec rg
          rw [if_pos h1]
          omega
        · refine bytes_t3 a b s p q x0 r hf n (dec n) hs (fun w => of_bad s n _ hs hn hn64 rfl he w) (fun w => rget8 s n hs hn w) hn64 h0 (by omega) ?_ hi w ht
          unfold dec
          rw [if_neg h1, if_neg h0]
    · exact bytes_t4 a b s p q x0 r hf hs h20 (fun w => of_none s hs w) w ht
  · exact bytes_long a b s (by omega) hs0 w ht
end Go.Proofs.YthpmhjlndnelfaaDoor.Real
