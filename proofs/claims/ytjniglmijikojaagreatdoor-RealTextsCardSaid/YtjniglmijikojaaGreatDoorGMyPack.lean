/- pack64: its contract. No conditions. rightShift: its contract. The condition: the decimal lies at g, its digits are digits, the first no nought. A number of digits times a power of two: how many digits it has; in plain Lean. No conditions. -/
import Derived.Test.YtjniglmijikojaaGreatDoorGMyScale
import Derived.Test.YtjniglmijikojaaGreatDoorGOwnQuo
namespace Go.Proofs.YtjniglmijikojaaGreatDoor.Text
open Go.RowKit Go.Lib Go.Proofs.YtjniglmijikojaaGreatDoor.Own

theorem f89 (n : Int) (w : World) : (callFunc 89 #[.int .u64 n]).run Tryz.prog w = .ok (.value (.float .f64 n.toNat)) w := by kernel_rfl

theorem and_u (a b : Nat) (ha : a < 18446744073709551616) (hb : b < 18446744073709551616) : bits .and .u64 (a : Int) (b : Int) = ((a &&& b : Nat) : Int) :=
  (bits_nat .u64 64 (by decide) (fun n h0 h1 => by rw [IntKind.wrap_u64]; omega) a b (by omega) (by omega)).1

/-- The bits of a number: its sign, what its exponent is, what follows. -/
def fbits (S M : Nat) (q : Int) : Nat := if M < 4503599627370496 then S * 9223372036854775808 + M else S * 9223372036854775808 + (q + 1075).toNat * 4503599627370496 + (M - 4503599627370496)

theorem bit52 (m : Nat) : m &&& 4503599627370496 = if m / 4503599627370496 % 2 = 1 then 4503599627370496 else 0 := by
  have e52 : (4503599627370496 : Nat) = 2 ^ 52 := by decide
  have hb : m.testBit 52 = decide (m / 4503599627370496 % 2 = 1) := by rw [Nat.testBit_eq_decide_div_mod_eq, ← e52]
  apply Nat.eq_of_testBit_eq
  intro i
  rw [Nat.testBit_and]
  by_cases hi : i = 52
  · subst hi
    rw [hb]
    by_cases c : m / 4503599627370496 % 2 = 1
    · rw [if_pos c, decide_eq_true c, Bool.true_and]
    · rw [if_neg c, decide_eq_false c, Bool.false_and]
      rfl
  · have h0 : (4503599627370496 : Nat).testBit i = false := by
      rw [e52, Nat.testBit_two_pow]
      exact decide_eq_false (fun e => hi e.symm)
    rw [h0, Bool.and_false]
    split
    · exact h0.symm
    · exact (Nat.zero_testBit i).symm

theorem pack_join (S f E : Nat) (hf : f < 4503599627370496) (hE : E < 2048) : (S * 9223372036854775808 + f) ||| (E * 4503599627370496) = S * 9223372036854775808 + E * 4503599627370496 + f := by
  have e1 : S * 9223372036854775808 + f = 2 ^ 63 * S ||| f := by
    rw [← Nat.two_pow_add_eq_or_of_lt (by omega) S]
    omega
  have e2 : 2 ^ 63 * S ||| E * 4503599627370496 = 2 ^ 52 * (2 ^ 11 * S + E) := by
    rw [← Nat.two_pow_add_eq_or_of_lt (by omega) S]
    omega
  rw [e1, Nat.or_assoc, Nat.or_comm f, ← Nat.or_assoc, e2, ← Nat.two_pow_add_eq_or_of_lt (by omega)]
  omega

theorem pack_sub (S M : Nat) (q : Int) (hS : S ≤ 1) (hM : M < 4503599627370496) (w : World) : Calls Tryz.prog 104 #[.int .u64 ((S * 9223372036854775808 + M : Nat) : Int), .int .i64 q] w fun e w' => e = .returned (.tuple #[.float .f64 (fbits S M q), .nilIface]) ∧ w = w' := by
  have h1 : bits .and .u64 ((S * 9223372036854775808 + M : Nat) : Int) 4503599627370496 = 0 := by
    have h := and_u (S * 9223372036854775808 + M) 4503599627370496 (by omega) (by omega)
    rw [bit52, if_neg (by omega)] at h
    exact h
  have h2 : fbits S M q = S * 9223372036854775808 + M := if_pos hM
  rw [h2]
  generalize S * 9223372036854775808 + M = m at *
  have hf := f89 (m : Int)
  clear hM hS h2
  go_enter Tryz.func104, Tryz.ntmps104
  go_wp2
  go_ret2
  exact ⟨rfl, rfl⟩

theorem nat_or_add : ∀ (a b : Nat), a &&& b = 0 → a ||| b = a + b := by
  intro a
  induction a using Nat.div2Induction with
  | ind n ih =>
    intro b h
    rcases Nat.eq_zero_or_pos n with h0 | h0
    · subst h0
      simp
    · have h2 := ih h0 (b / 2) (by rw [← Nat.and_div_two, h])
      have h3 : (n &&& b) % 2 = 0 := by rw [h]
      have h4 : (n ||| b) / 2 = n / 2 + b / 2 := by rw [Nat.or_div_two, h2]
      have h5 : ¬ (n % 2 = 1 ∧ b % 2 = 1) := fun h' => by
        have := (Nat.and_mod_two_eq_one).2 h'
        omega
      have h6 : (n ||| b) % 2 = 1 ↔ n % 2 = 1 ∨ b % 2 = 1 := Nat.or_mod_two_eq_one
      omega

theorem andNot_52 (m : Nat) (hm : m < 18446744073709551616) (hb : m / 4503599627370496 % 2 = 1) : bits .andNot .u64 (m : Int) 4503599627370496 = ((m - 4503599627370496 : Nat) : Int) := by
  have h := u64_andNot_nat m 4503599627370496 hm (by omega)
  have e : m &&& (18446744073709551615 - 4503599627370496) = m - 4503599627370496 := by
    have e1 := bit52 m
    rw [if_pos hb] at e1
    have e2 : (m &&& (18446744073709551615 - 4503599627370496)) ||| (m &&& 4503599627370496) = m := by
      rw [← Nat.and_or_distrib_left, show (18446744073709551615 - 4503599627370496 ||| 4503599627370496 : Nat) = 2 ^ 64 - 1 by decide, Nat.and_two_pow_sub_one_eq_mod]
      omega
    have e3 : (m &&& (18446744073709551615 - 4503599627370496)) &&& 4503599627370496 = 0 := by
      rw [Nat.and_assoc, show (18446744073709551615 - 4503599627370496 &&& 4503599627370496 : Nat) = 0 by decide, Nat.and_zero]
    have e4 : ∀ a b : Nat, a &&& b = 0 → a ||| b = a + b := fun a b h => by
      have ha := nat_or_add a b h
      exact ha
    rw [e1] at e2
    have := e4 _ _ e3
    omega
  rw [e] at h
  exact h

theorem pack_core (m m1 E R : Nat) (q : Int) (hq1 : -1074 ≤ q) (hq2 : q ≤ 971) (hq : (1075 : Int) + q = (E : Int)) (_ : E < 2048)
    (h1 : bits .and .u64 (m : Int) 4503599627370496 = 4503599627370496) (h3 : bits .andNot .u64 (m : Int) 4503599627370496 = (m1 : Int))
    (hor : bits .or .u64 (m1 : Int) ((E : Int) * 4503599627370496) = (R : Int)) (w : World) :
    Calls Tryz.prog 104 #[.int .u64 (m : Int), .int .i64 q] w fun e w' => e = .returned (.tuple #[.float .f64 R, .nilIface]) ∧ w = w' := by
  have hf := f89 (R : Int)
  rw [Int.toNat_natCast] at hf
  have w1 := wrap_u ((E : Int) * 4503599627370496) (by omega) (by omega)
  have w2 : IntKind.u64.wrap (E : Int) = (E : Int) := wrap_u _ (by omega) (by omega)
  go_enter Tryz.func104, Tryz.ntmps104
  go_wp2
  go_ret2
  exact ⟨rfl, rfl⟩

theorem pack_norm (S M : Nat) (q : Int) (hS : S ≤ 1) (hM : 4503599627370496 ≤ M) (hM2 : M < 9007199254740992) (hq1 : -1074 ≤ q) (hq2 : q ≤ 971) (w : World) : Calls Tryz.prog 104 #[.int .u64 ((S * 9223372036854775808 + M : Nat) : Int), .int .i64 q] w fun e w' => e = .returned (.tuple #[.float .f64 (fbits S M q), .nilIface]) ∧ w = w' := by
  have h1 : bits .and .u64 ((S * 9223372036854775808 + M : Nat) : Int) 4503599627370496 = 4503599627370496 := by
    have h := and_u (S * 9223372036854775808 + M) 4503599627370496 (by omega) (by omega)
    rw [bit52, if_pos (by omega)] at h
    exact h
  have h3 := andNot_52 (S * 9223372036854775808 + M) (by omega) (by omega)
  obtain ⟨E, hE⟩ : ∃ E : Nat, q + 1075 = (E : Int) := ⟨(q + 1075).toNat, by omega⟩
  have hj := pack_join S (M - 4503599627370496) E (by omega) (by omega)
  have h2 : fbits S M q = (S * 9223372036854775808 + M - 4503599627370496) ||| (E * 4503599627370496) := by
    unfold fbits
    rw [if_neg (by omega), show S * 9223372036854775808 + M - 4503599627370496 = S * 9223372036854775808 + (M - 4503599627370496) by omega, hj, show (q + 1075).toNat = E by omega]
  have hor := or_u (S * 9223372036854775808 + M - 4503599627370496) (E * 4503599627370496) (by omega) (by omega)
  have hE2 : ((E * 4503599627370496 : Nat) : Int) = (E : Int) * 4503599627370496 := by omega
  rw [hE2] at hor
  rw [h2]
  exact pack_core _ _ E _ q hq1 hq2 (by omega) (by omega) h1 h3 hor w

/-- Without conditions on the number: some float, no error or the one for the range. -/
theorem pack_free (m : Nat) (q : Int) (hm : m < 18446744073709551616) (hq1 : -100000 ≤ q) (hq2 : q ≤ 100000) (w : World) : Calls Tryz.prog 104 #[.int .u64 (m : Int), .int .i64 q] w fun e w' => (∃ (f : Nat) (r : Value), e = .returned (.tuple #[.float .f64 f, r]) ∧ (r = .nilIface ∨ r = .iface 58 (.int .i64 1))) ∧ w = w' := by
  by_cases hb : m / 4503599627370496 % 2 = 1
  · have h1 : bits .and .u64 (m : Int) 4503599627370496 = 4503599627370496 := by
      have h := and_u m 4503599627370496 hm (by omega)
      rw [bit52, if_pos hb] at h
      exact h
    by_cases h972 : 972 ≤ q
    · have hf := f89
      have h2 := and_u m 9223372036854775808 hm (by omega)
      have hb2 : m &&& 9223372036854775808 < 18446744073709551616 := Nat.lt_of_le_of_lt Nat.and_le_right (by omega)
      have h3 := or_u (m &&& 9223372036854775808) 9218868437227405312 hb2 (by omega)
      generalize m &&& 9223372036854775808 = x at *
      generalize x ||| 9218868437227405312 = y at *
      have h2 : bits .and .u64 (m : Int) 9223372036854775808 = (x : Int) := h2
      have h3 : bits .or .u64 (x : Int) 9218868437227405312 = (y : Int) := h3
      go_enter Tryz.func104, Tryz.ntmps104
      go_wp2
      go_ret2
      exact ⟨⟨_, _, rfl, Or.inr rfl⟩, rfl⟩
    · have h3 := andNot_52 m hm hb
      obtain ⟨t, ht⟩ : ∃ t, IntKind.u64.wrap (IntKind.u64.wrap (1075 + q) * 4503599627370496) = t := ⟨_, rfl⟩
      have hf := f89
      go_enter Tryz.func104, Tryz.ntmps104
      go_wp2
      go_ret2
      exact ⟨⟨_, _, rfl, Or.inl rfl⟩, rfl⟩
  · have h1 : bits .and .u64 (m : Int) 4503599627370496 = 0 := by
      have h := and_u m 4503599627370496 hm (by omega)
      rw [bit52, if_neg hb] at h
      exact h
    have hf := f89 (m : Int)
    go_enter Tryz.func104, Tryz.ntmps104
    go_wp2
    go_ret2
    exact ⟨⟨_, _, rfl, Or.inl rfl⟩, rfl⟩
end Go.Proofs.YtjniglmijikojaaGreatDoor.Text
namespace Go.Proofs.YtjniglmijikojaaGreatDoor.Text
set_option linter.unusedSimpArgs false
set_option linter.unusedVariables false
open Go.RowKit Go.Lib Go.Proofs.YtjniglmijikojaaGreatDoor.Own Go.Proofs.YtjniglmijikojaaGreatDoorW.PrintWords

/-- A decimal that is not nought. -/
structure Fine (w : World) (g : Nat) (f : Nat → Int) (nd : Nat) (dp : Int) : Prop where
  dec : Dec w g f nd dp
  pos : 0 < nd
  le : nd ≤ 800
  digs : Digs f nd
  top : f 0 ≠ 48

/-- What the first loop has: r digits are read, they make n. -/
def Got (f : Nat → Int) (K r n : Nat) : Prop := n < 10 * K ∧ ((r = 0 ∧ n = 0) ∨ (1 ≤ r ∧ 10 ^ (r - 1) ≤ n ∧ (r = 1 → (n : Int) = f 0 - 48)))

theorem got_on {f : Nat → Int} {nd K R N d : Nat} (h : Got f K R N) (hN : N < K) (hd : d ≤ 9) (h0 : R = 0 → 1 ≤ d) (hf : f R = (d : Int) + 48) : Got f K (R + 1) (N * 10 + d) := by
  obtain ⟨h1, h2⟩ := h
  refine ⟨by omega, .inr ⟨by omega, ?_, ?_⟩⟩
  · rw [Nat.add_sub_cancel]
    rcases h2 with ⟨e1, e2⟩ | ⟨e1, e2, _⟩
    · subst e1 e2
      have := h0 rfl
      simp
      omega
    · obtain ⟨R1, rfl⟩ : ∃ R1, R = R1 + 1 := ⟨R - 1, by omega⟩
      rw [Nat.add_sub_cancel] at e2
      rw [Nat.pow_succ]
      omega
  · intro e
    obtain rfl : R = 0 := by omega
    rcases h2 with ⟨_, e2⟩ | ⟨e1, _⟩
    · subst e2
      rw [hf]
      omega
    · omega
theorem got_ten {f : Nat → Int} {nd K R N : Nat} (h : Got f K R N) (hN : N < K) (h1 : 1 ≤ R) : Got f K (R + 1) (N * 10) := by
  obtain ⟨g1, g2⟩ := h
  refine ⟨by omega, .inr ⟨by omega, ?_, fun e => by omega⟩⟩
  rw [Nat.add_sub_cancel]
  rcases g2 with ⟨e1, _⟩ | ⟨_, e2, _⟩
  · omega
  · obtain ⟨R1, rfl⟩ : ∃ R1, R = R1 + 1 := ⟨R - 1, by omega⟩
    rw [Nat.add_sub_cancel] at e2
    rw [Nat.pow_succ]
    omega
theorem got_r {f : Nat → Int} {K R N : Nat} (h : Got f K R N) (hK : K ≤ 1152921504606846976) (hN : 0 < N) : 1 ≤ R ∧ R ≤ 20 := by
  obtain ⟨g1, g2⟩ := h
  rcases g2 with ⟨_, e⟩ | ⟨e1, e2, _⟩
  · omega
  · refine ⟨e1, ?_⟩
    rcases Nat.lt_or_ge 20 R with g | g
    · have : 10 ^ 20 ≤ 10 ^ (R - 1) := Nat.pow_le_pow_right (by omega) (by omega)
      have e : (10 : Nat) ^ 20 = 100000000000000000000 := by decide
      omega
    · exact g

/-- What rightShift leaves. -/
def RightRes (g : Nat) (f : Nat → Int) (nd : Nat) (dp : Int) (k : Nat) (w : World) (e : Ending) (w' : World) : Prop :=
  e = .returned (.tuple #[]) ∧ Below g w w' ∧ ∃ f' nd' dp', Fine w' g f' nd' dp' ∧ dp' ≤ dp ∧ dp - 20 ≤ dp' ∧ (4 ≤ k → dp' < dp) ∧ (k = 3 → dp' < dp ∨ (dp' = dp ∧ 56 ≤ f 0 ∧ f' 0 = 49))

theorem three_step {N2 M2 K k j : Nat} (hK : 2 ^ k = K) (hj : j + 1 ≤ k + 1) (hm : N2 % 2 ^ (k + 1 - (j + 1)) = 0) (hM : N2 % K = M2) : (j = 0 → M2 * 10 = 0) ∧ M2 * 10 % 2 ^ (k + 1 - j) = 0 := by
  have e0 : k + 1 - (j + 1) = k - j := by omega
  rw [e0] at hm
  have hd : 2 ^ (k - j) ∣ K := by rw [← hK]; exact Nat.pow_dvd_pow 2 (by omega)
  have h1 : 2 ^ (k - j) ∣ M2 := by
    rw [← hM]
    exact (Nat.dvd_mod_iff hd).2 (Nat.dvd_of_mod_eq_zero hm)
  refine ⟨fun e => ?_, ?_⟩
  · subst e
    rw [Nat.sub_zero, hK] at h1
    have h2 : M2 < K := by rw [← hM]; exact Nat.mod_lt _ (by rw [← hK]; exact Nat.pow_pos (by omega))
    have := Nat.eq_zero_of_dvd_of_lt h1 h2
    omega
  · apply Nat.mod_eq_zero_of_dvd
    obtain ⟨c, hc⟩ := h1
    rw [show k + 1 - j = k - j + 1 by omega, Nat.pow_succ, hc]
    exact ⟨c * 5, by rw [Nat.mul_assoc, Nat.mul_assoc]; congr 1; omega⟩
theorem div9 {N K : Nat} (h : N < 10 * K) (h1 : K ≤ N) (hK : 0 < K) : 1 ≤ N / K ∧ N / K ≤ 9 := by
  have h2 := (Nat.div_lt_iff_lt_mul hK).2 h
  have h3 := (Nat.le_div_iff_mul_le hK).2 (show 1 * K ≤ N by omega)
  omega
theorem right_end {w1 : World} {g : Nat} {f f1 : Nat → Int} {nd m : Nat} {dp DP : Int} {k K R N : Nat} (hK : 2 ^ k = K) (hG : Got f K R N) (hKN : K ≤ N) (hR1 : 1 ≤ R) (hR20 : R ≤ 20) (hDP : dp - ((R : Int) - 1) = DP) (ht : f1 0 = ((N / K : Nat) : Int) + 48) (hf0 : f 0 ≤ 57)
    (hd : Fine w1 g f1 m DP) : ∃ f' nd' dp', Fine w1 g f' nd' dp' ∧ dp' ≤ dp ∧ dp - 20 ≤ dp' ∧ (4 ≤ k → dp' < dp) ∧ (k = 3 → dp' < dp ∨ (dp' = dp ∧ 56 ≤ f 0 ∧ f' 0 = 49)) := by
  refine ⟨f1, m, DP, hd, by omega, by omega, fun h4 => ?_, fun h3 => ?_⟩
  · have : 2 ^ 4 ≤ 2 ^ k := Nat.pow_le_pow_right (by omega) h4
    rcases hG.2 with ⟨e, _⟩ | ⟨_, _, e⟩
    · omega
    · by_cases h : R = 1
      · have := e h
        omega
      · omega
  · subst h3
    by_cases h : R = 1
    · right
      rcases hG.2 with ⟨e, _⟩ | ⟨_, _, e⟩
      · omega
      · have h0 := e h
        have hk8 : K = 8 := by rw [← hK]
        subst hk8
        refine ⟨by omega, by omega, ?_⟩
        rw [ht]
        omega
    · left
      omega

set_option maxRecDepth 30000 in
set_option maxHeartbeats 4000000 in
theorem right_any (w : World) (g : Nat) (f : Nat → Int) (nd : Nat) (dp : Int) (k : Nat) (hk1 : 1 ≤ k) (hk2 : k ≤ 60) (hdp1 : -1000000 ≤ dp) (hdp2 : dp ≤ 1000000) (hd : Fine w g f nd dp) :
    Calls Tryz.prog 75 #[.pointer (some ⟨g, 0, none⟩), .int .u64 (k : Int)] w (RightRes g f nd dp k w) := by
  have HD := Aside0.mk hd
  have hlt := hd.dec.lt
  have hfz := hd.dec.fz
  have c0 := hd.dec.nd
  have hnd := hd.le
  have hnd1 := hd.pos
  have hK1 : 2 ≤ 2 ^ k := by
    have : 2 ^ 1 ≤ 2 ^ k := Nat.pow_le_pow_right (by omega) hk1
    omega
  have hK2 : 2 ^ k ≤ 1152921504606846976 := Nat.pow_le_pow_right (by omega) hk2
  obtain ⟨K, hK⟩ : ∃ K, 2 ^ k = K := ⟨_, rfl⟩
  rw [hK] at hK1 hK2
  have hKi : (2 : Int) ^ k = (K : Int) := by rw [← hK]; simp
  have HK := Aside0.mk hK
  clear hd hK
  go_enter Tryz.func75, Tryz.ntmps75
  go_upto_block 0 with fail
  go_cut [4, 6] from 7 to 48 (fun r n wx => ∃ (R N : Nat), r = .int .i64 (R : Int) ∧ n = .int .u64 (N : Int) ∧ Got f K R N ∧ K ≤ N ∧ w = wx)
  case first =>
    go_wp2_with fail
    go_loopw [4, 6] (fun r n wr => ∃ (R N : Nat), r = .int .i64 (R : Int) ∧ n = .int .u64 (N : Int) ∧ R ≤ nd ∧ Got f K R N ∧ w = wr) (fun r _ _ => nd - (RowKit.intOf r).toNat)
    case atStart => exact ⟨0, 0, rfl, rfl, Nat.zero_le _, ⟨by omega, .inl ⟨rfl, rfl⟩⟩, rfl⟩
    case round =>
      obtain ⟨R, N, rfl, rfl, hR, hG, rfl⟩ := hrel
      have hN1 : N < 10 * K := hG.1
      have HG := Aside0.mk hG
      have HR := Aside0.mk hR
      clear hG
      rcases Nat.lt_or_ge N K with hN | hN
      · have p1 : ((N : Int) / (K : Int) == 0) = true := beq_iff_eq.2 (Int.ediv_eq_zero_of_lt (by omega) (by omega))
        rcases Nat.lt_or_ge R nd with h | h
        · have p2 := eq_false (show ¬ (nd : Int) ≤ (R : Int) by omega)
          have p2' := eq_false (show ¬ nd ≤ R by omega)
          have p3 := eq_true (show R < 800 by omega)
          have c1 := HD.out.dec.cell R (by omega)
          have hdg := HD.out.digs R h
          obtain ⟨d, hdd⟩ : ∃ d : Nat, f R = (d : Int) + 48 := ⟨(f R - 48).toNat, by omega⟩
          have hd9 : d ≤ 9 := by omega
          have hd0 : R = 0 → 1 ≤ d := fun e => by
            subst e
            have := HD.out.top
            omega
          have HGN := Aside0.mk (got_on (nd := nd) HG.out hN hd9 hd0 hdd)
          have MS := Aside0.mk (show nd - ((R : Int) + 1).toNat < nd - (R : Int).toNat by omega)
          have HRN := Aside0.mk (show R + 1 ≤ nd by omega)
          rw [hdd] at c1
          have hRb : (R : Int) ≤ 799 := by omega
          clear h hR hdd hdg hd0
          go_wp2
          go_roundw
          case measure => exact MS.out
          case rel => exact ⟨R + 1, N * 10 + d, rfl, by first | rfl | exact congrArg (Value.int .u64) (by omega), HRN.out, HGN.out, trivial⟩
        · have p2 := eq_true (show (nd : Int) ≤ (R : Int) by omega)
          have p2' := eq_true h
          have hR1 : 1 ≤ R := by omega
          have hN0 : 0 < N := by
            rcases HG.out.2 with ⟨e, _⟩ | ⟨_, e, _⟩
            · omega
            · exact Nat.lt_of_lt_of_le (Nat.pow_pos (by omega)) e
          have p4 : ((N : Int) == 0) = false := beq_eq_false_iff_ne.2 (by omega)
          go_wp2_with fail
          go_loopw [4, 6] (fun r n wr => ∃ (R N : Nat), r = .int .i64 (R : Int) ∧ n = .int .u64 (N : Int) ∧ 1 ≤ R ∧ 0 < N ∧ Got f K R N ∧ w = wr) (fun _ n _ => K - (RowKit.intOf n).toNat)
          case atStart => exact ⟨R, N, rfl, rfl, hR1, hN0, HG.out, rfl⟩
          case round =>
            obtain ⟨R2, N2, rfl, rfl, hR2, hN2, hG2, rfl⟩ := hrel
            have hN21 : N2 < 10 * K := hG2.1
            have HG2 := Aside0.mk hG2
            rcases Nat.lt_or_ge N2 K with h2 | h2
            · have p5 : ((N2 : Int) / (K : Int) == 0) = true := beq_iff_eq.2 (Int.ediv_eq_zero_of_lt (by omega) (by omega))
              have HGN := Aside0.mk (got_ten (nd := nd) hG2 h2 hR2)
              have MS := Aside0.mk (show K - ((N2 : Int) * 10).toNat < K - (N2 : Int).toNat by omega)
              have hR20 : R2 ≤ 20 := (got_r hG2 hK2 hN2).2
              clear hG2
              go_wp2
              go_roundw
              case measure => exact MS.out
              case rel => exact ⟨R2 + 1, N2 * 10, rfl, rfl, by omega, by omega, HGN.out, trivial⟩
            · have p5 : ((N2 : Int) / (K : Int) == 0) = false := by
                refine beq_eq_false_iff_ne.2 (fun e => ?_)
                have h3 := (Int.le_ediv_iff_mul_le (show (0 : Int) < (K : Int) by omega)).2 (show 1 * (K : Int) ≤ (N2 : Int) by omega)
                omega
              have H2 := Aside0.mk h2
              clear hG2 h2
              go_wp2_with fail
              go_meet
              case rel => exact ⟨R2, N2, rfl, rfl, HG2.out, H2.out, rfl⟩
      · have p1 : ((N : Int) / (K : Int) == 0) = false := by
          refine beq_eq_false_iff_ne.2 (fun e => ?_)
          have h3 := (Int.le_ediv_iff_mul_le (show (0 : Int) < (K : Int) by omega)).2 (show 1 * (K : Int) ≤ (N : Int) by omega)
          omega
        have H2 := Aside0.mk hN
        clear hN hR
        go_wp2_with fail
        go_meet
        case rel => exact ⟨R, N, rfl, rfl, HG.out, H2.out, rfl⟩
  case rest =>
    obtain ⟨R, N, rfl, rfl, hG, hKN, rfl⟩ := hcut
    obtain ⟨hR1, hR20⟩ := got_r hG hK2 (by omega)
    have hN10 : N < 10 * K := hG.1
    have HG := Aside0.mk hG
    have HR1 := Aside0.mk hR1
    have c1 := HD.out.dec.dp
    have hsh : IntKind.u64.wrap ((2 : Int) ^ k) = (K : Int) := by rw [hKi, IntKind.wrap_u64]; omega
    have hms : ((K - 1 : Nat) : Int) = (K : Int) - 1 := by omega
    clear hG
    go_upto_block 4 with fail
    have hD1 : Dec (w.setCell ⟨g, 801, none⟩ (.int .i64 (dp - ((R : Int) - 1)))) g f nd (dp - ((R : Int) - 1)) := HD.out.dec.setDp _
    have hB1 : Below g w (w.setCell ⟨g, 801, none⟩ (.int .i64 (dp - ((R : Int) - 1)))) := Below.setCell (Below.refl g w) (p := ⟨g, 801, none⟩) (Nat.le_refl g) _
    generalize w.setCell ⟨g, 801, none⟩ (.int .i64 (dp - ((R : Int) - 1))) = w1 at *
    obtain ⟨DP, hDP⟩ : ∃ DP : Int, dp - ((R : Int) - 1) = DP := ⟨_, rfl⟩
    rw [hDP] at hD1
    have HDP := Aside0.mk hDP
    have HD1 := Aside0.mk hD1
    have HB1 := Aside0.mk hB1
    clear hD1 hB1 hDP c0 c1 hlt hfz
    go_cut [4, 5, 6] from 61 to 96 (fun _ v n wx => ∃ (V N2 : Nat) (f1 : Nat → Int), v = .int .i64 (V : Int) ∧ n = .int .u64 (N2 : Int) ∧ V ≤ 800 ∧ N2 < 10 * K ∧ Dec wx g f1 nd DP ∧ Digs f1 V ∧ (V = 0 → N2 = N) ∧ (0 < V → f1 0 = ((N / K : Nat) : Int) + 48) ∧ Below g w wx)
    case first =>
      go_wp2_with fail
      go_loopw [4, 5, 6] (fun r v n wr => ∃ (V N2 : Nat) (f1 : Nat → Int), r = .int .i64 ((R : Int) + (V : Int)) ∧ v = .int .i64 (V : Int) ∧ n = .int .u64 (N2 : Int) ∧ (V = 0 ∨ R + V ≤ nd) ∧ N2 < 10 * K ∧ (∀ i, V ≤ i → f1 i = f i) ∧ Dec wr g f1 nd DP ∧ Digs f1 V ∧ (V = 0 → N2 = N) ∧ (0 < V → f1 0 = ((N / K : Nat) : Int) + 48) ∧ Below g w wr) (fun r _ _ _ => nd - (RowKit.intOf r).toNat)
      case atStart => exact ⟨0, N, f, by first | rfl | exact congrArg (Value.int .i64) (by omega), rfl, rfl, .inl rfl, hN10, fun _ _ => rfl, HD1.out, fun i hi => absurd hi (by omega), fun _ => rfl, fun h => absurd h (by omega), HB1.out⟩
      case round =>
        obtain ⟨V, N2, f1, rfl, rfl, rfl, hV, hN2, hsame, hdec, hdg, ht1, ht2, hbel⟩ := hrel
        have HDE := Aside0.mk hdec
        have HBL := Aside0.mk hbel
        have HDG := Aside0.mk hdg
        have HT1 := Aside0.mk ht1
        have HT2 := Aside0.mk ht2
        have HSM := Aside0.mk hsame
        have hV8 : V ≤ 800 := by omega
        have c0 := hdec.nd
        have hlt := hdec.lt
        have hfz := hdec.fz
        rcases Nat.lt_or_ge (R + V) nd with h | h
        · have p1 := eq_true (show (R : Int) + (V : Int) < (nd : Int) by omega)
          have c1 := hdec.cell (R + V) (by omega)
          have cV := hdec.cell V (by omega)
          have hdd : 48 ≤ f (R + V) ∧ f (R + V) ≤ 57 := HD.out.digs (R + V) h
          rw [hsame (R + V) (by omega)] at c1
          obtain ⟨d, hd⟩ : ∃ d : Nat, f (R + V) = (d : Int) + 48 := ⟨(f (R + V) - 48).toNat, by omega⟩
          have hd9 : d ≤ 9 := by omega
          rw [hd] at c1
          have hRV : ((R : Int) + (V : Int)).toNat = R + V := by omega
          have p2 := eq_true (show R + V < 800 by omega)
          have p3 := eq_true (show V < 800 by omega)
          have p4 := eq_true (show (R : Int) + (V : Int) < 800 by omega)
          have p4' := eq_true (show 0 ≤ (R : Int) + (V : Int) by omega)
          obtain ⟨Q, hQ⟩ : ∃ Q, N2 / K = Q := ⟨_, rfl⟩
          obtain ⟨M2, hM2⟩ : ∃ M2, N2 % K = M2 := ⟨_, rfl⟩
          have hQ9 : Q ≤ 9 := by rw [← hQ]; have := (Nat.div_lt_iff_lt_mul (show 0 < K by omega)).2 (show N2 < 10 * K by omega); omega
          have hMK : M2 < K := by rw [← hM2]; exact Nat.mod_lt _ (by omega)
          have hq : (N2 : Int) / (K : Int) = (Q : Int) := by rw [← hQ]; rfl
          have hand : bits .and .u64 (N2 : Int) ((K : Int) - 1) = (M2 : Int) := by
            rw [← hms, and_u N2 (K - 1) (by omega) (by omega), ← hM2, ← HK.out, Nat.and_two_pow_sub_one_eq_mod]
          have MS := Aside0.mk (show nd - ((R : Int) + (V : Int) + 1).toNat < nd - ((R : Int) + (V : Int)).toNat by omega)
          have HRV := Aside0.mk h
          have HQ := Aside0.mk hQ
          have hRVb : (R : Int) + (V : Int) ≤ 799 := by omega
          have hVb : (V : Int) ≤ 799 := by omega
          clear h hV hsame hdec hdg ht1 ht2 hbel hQ hM2 hdd hd
          go_wp2
          go_roundw
          case measure => exact MS.out
          case rel =>
            refine ⟨V + 1, M2 * 10 + d, updI f1 V ((Q : Int) + 48), by first | rfl | exact congrArg (Value.int .i64) (by omega), rfl, by first | rfl | exact congrArg (Value.int .u64) (by omega), .inr HRV.out, by omega, fun i hi => ?_, HDE.out.setD V (by omega) _, fun i hi => ?_, fun e => by omega, fun _ => ?_, HBL.out.setCell (Nat.le_refl _) _⟩
            · unfold updI
              rw [if_neg (by omega)]
              exact HSM.out i (by omega)
            · unfold updI
              by_cases e : i = V
              · rw [if_pos e]; omega
              · rw [if_neg e]; exact HDG.out i (by omega)
            · unfold updI
              rcases Nat.eq_zero_or_pos V with e | e
              · rw [if_pos e.symm, ← HQ.out, HT1.out e]
              · rw [if_neg (by omega)]; exact HT2.out e
        · have p1 := eq_false (show ¬ (R : Int) + (V : Int) < (nd : Int) by omega)
          clear h hV hsame hdec hdg ht1 ht2 hbel
          go_wp2_with fail
          go_meet
          case rel => exact ⟨V, N2, f1, rfl, rfl, hV8, hN2, HDE.out, HDG.out, HT1.out, HT2.out, HBL.out⟩
    case rest =>
      obtain ⟨V, N2, f1, rfl, rfl, hV8, hN2, hdec, hdg, ht1, ht2, hbel⟩ := hcut
      have HV8 := Aside0.mk hV8
      have HN2 := Aside0.mk hN2
      have HDC := Aside0.mk hdec
      have HDGS := Aside0.mk hdg
      have HTA := Aside0.mk ht1
      have HTB := Aside0.mk ht2
      have HBE := Aside0.mk hbel
      clear hV8 hN2 hdec hdg ht1 ht2 hbel HD1 HB1
      go_wp2_with fail
      go_loopg [5, 6] (k + 1) (fun gk v n wr => ∃ (V N2 : Nat) (f1 : Nat → Int), v = .int .i64 (V : Int) ∧ n = .int .u64 (N2 : Int) ∧ gk ≤ k + 1 ∧ (gk = 0 → N2 = 0) ∧ N2 % 2 ^ (k + 1 - gk) = 0 ∧ V ≤ 800 ∧ N2 < 10 * K ∧ Dec wr g f1 nd DP ∧ Digs f1 V ∧ (V = 0 → N2 = N) ∧ (0 < V → f1 0 = ((N / K : Nat) : Int) + 48) ∧ Below g w wr)
      case atStart => exact ⟨V, N2, f1, rfl, rfl, Nat.le_refl _, fun e => by omega, by rw [Nat.sub_self, Nat.pow_zero, Nat.mod_one], HV8.out, HN2.out, HDC.out, HDGS.out, HTA.out, HTB.out, HBE.out⟩
      case round =>
        clear HV8 HN2 HDC HDGS HTA HTB HBE
        obtain ⟨V, N2, f1, rfl, rfl, hgk, hg0, hmod, hV8, hN2, hdec, hdg, ht1, ht2, hbel⟩ := hrel
        have HDE := Aside0.mk hdec
        have HBL := Aside0.mk hbel
        have HDG := Aside0.mk hdg
        have HT1 := Aside0.mk ht1
        have HT2 := Aside0.mk ht2
        have HMOD := Aside0.mk hmod
        have HGK := Aside0.mk hgk
        have hlt := hdec.lt
        have hfz := hdec.fz
        have c3 := hdec.nd
        obtain ⟨tr, c4⟩ := hdec.tr
        rcases Nat.eq_zero_or_pos N2 with h | h
        · subst h
          have hVp : 0 < V := by
            rcases Nat.eq_zero_or_pos V with e | e
            · have := ht1 e; omega
            · exact e
          have HTR := Aside0.mk (fun w2 (hd : Dec w2 g f1 V DP) => trim_any w2 g f1 V DP hV8 hd hdg)
          have htop : f1 0 ≠ 48 := by
            have h9 := div9 hN10 hKN (by omega)
            rw [ht2 hVp]
            omega
          have HTOP := Aside0.mk htop
          have HVP := Aside0.mk hVp
          clear hgk hg0 hmod hdec hdg ht1 ht2 hbel htop hVp
          go_wp2_with (go_at_call 73; refine (HTR.out _ (HDE.out.setNd V)).mono ?_; rintro e w5 ⟨rfl, hb5, m, hm1, hm2, hd5⟩)
          go_end0
          have hm0 := hm2 HVP.out HTOP.out
          rw [if_neg (by omega)] at hd5
          have hb6 : Below g w w5 := (HBL.out.setCell (p := ⟨g, 800, none⟩) (Nat.le_refl g) _).trans hb5
          exact ⟨rfl, hb6, right_end (nd := nd) HK.out HG.out hKN HR1.out hR20 HDP.out (HT2.out HVP.out) (HD.out.digs 0 HD.out.pos).2 ⟨hd5, hm0, by omega, fun i hi => HDG.out i (by omega), HTOP.out⟩⟩
        · obtain ⟨j, rfl⟩ : ∃ j, gk = j + 1 := ⟨gk - 1, by
            rcases Nat.eq_zero_or_pos gk with e | e
            · have := hg0 e; omega
            · omega⟩
          obtain ⟨Q, hQ⟩ : ∃ Q, N2 / K = Q := ⟨_, rfl⟩
          obtain ⟨M2, hM2⟩ : ∃ M2, N2 % K = M2 := ⟨_, rfl⟩
          have hQ9 : Q ≤ 9 := by rw [← hQ]; have := (Nat.div_lt_iff_lt_mul (show 0 < K by omega)).2 (show N2 < 10 * K by omega); omega
          have hMK : M2 < K := by rw [← hM2]; exact Nat.mod_lt _ (by omega)
          have hq : (N2 : Int) / (K : Int) = (Q : Int) := by rw [← hQ]; rfl
          have hand : bits .and .u64 (N2 : Int) ((K : Int) - 1) = (M2 : Int) := by
            rw [← hms, and_u N2 (K - 1) (by omega) (by omega), ← hM2, ← HK.out, Nat.and_two_pow_sub_one_eq_mod]
          have HQ := Aside0.mk hQ
          have HN := Aside0.mk (three_step (k := k) (j := j) HK.out hgk hmod hM2)
          have HJ := Aside0.mk (show j ≤ k + 1 by omega)
          have p1 := eq_true (show (0 : Int) < (N2 : Int) by omega)
          have p1' := eq_true (show 0 < N2 by omega)
          have hVb : (V : Int) ≤ 800 := by omega
          rcases Nat.lt_or_ge V 800 with h8 | h8
          · have cV := hdec.cell V h8
            have p2 := eq_true (show (V : Int) < 800 by omega)
            have p2' := eq_true h8
            have H8 := Aside0.mk h8
            clear hgk hg0 hmod hdec hdg ht1 ht2 hbel hQ hM2
            go_wp2
            go_roundg j
            case measure => omega
            case rel =>
              refine ⟨V + 1, M2 * 10, updI f1 V ((Q : Int) + 48), rfl, rfl, HJ.out, HN.out.1, HN.out.2, H8.out, by omega, HDE.out.setD V H8.out _, fun i hi => ?_, fun e => by omega, fun _ => ?_, HBL.out.setCell (Nat.le_refl _) _⟩
              · unfold updI
                by_cases e : i = V
                · rw [if_pos e]; omega
                · rw [if_neg e]; exact HDG.out i (by omega)
              · unfold updI
                rcases Nat.eq_zero_or_pos V with e | e
                · rw [if_pos e.symm, ← HQ.out, HT1.out e]
                · rw [if_neg (by omega)]; exact HT2.out e
          · have p2 := eq_false (show ¬ (V : Int) < 800 by omega)
            have p2' := eq_false (show ¬ V < 800 by omega)
            have HV8 := Aside0.mk hV8
            rcases Nat.eq_zero_or_pos Q with e | e
            · subst e
              clear hgk hg0 hmod hdec hdg ht1 ht2 hbel hQ hM2
              go_wp2
              go_roundg j
              case measure => omega
              case rel => exact ⟨V, M2 * 10, f1, rfl, rfl, HJ.out, HN.out.1, HN.out.2, HV8.out, by omega, HDE.out, HDG.out, fun e => by omega, HT2.out, HBL.out⟩
            · have p3 := eq_true (show (0 : Int) < (Q : Int) by omega)
              have p3' := eq_true e
              clear hgk hg0 hmod hdec hdg ht1 ht2 hbel hQ hM2
              go_wp2
              go_roundg j
              case measure => omega
              case rel => exact ⟨V, M2 * 10, f1, rfl, rfl, HJ.out, HN.out.1, HN.out.2, HV8.out, by omega, HDE.out.setTr true, HDG.out, fun e => by omega, HT2.out, HBL.out.setCell (Nat.le_refl _) _⟩
end Go.Proofs.YtjniglmijikojaaGreatDoor.Text
namespace Go.Proofs.YtjniglmijikojaaGreatDoor.Text
open Go.RowKit Go.Proofs.YtjniglmijikojaaGreatDoor.PRealTexts Go.Proofs.YtjniglmijikojaaGreatDoorW.PrintWords

/-- The number of the first n digits. -/
def V (d : Nat → Nat) : Nat → Nat
  | 0 => 0
  | n + 1 => V d n * 10 + d n
theorem V_lt {d : Nat → Nat} : ∀ n, (∀ i, i < n → d i ≤ 9) → V d n < 10 ^ n
  | 0, _ => by simp [V]
  | n + 1, h => by
    have h1 := V_lt n (fun i hi => h i (by omega))
    have h2 := h n (by omega)
    rw [Nat.pow_succ]
    show V d n * 10 + d n < _
    omega
theorem V_low {d : Nat → Nat} (h0 : 1 ≤ d 0) : ∀ n, 1 ≤ n → 10 ^ (n - 1) ≤ V d n
  | 0, h => by omega
  | 1, _ => by simp [V]; omega
  | n + 2, _ => by
    have h1 := V_low h0 (n + 1) (by omega)
    rw [show n + 2 - 1 = n + 1 by omega, Nat.pow_succ]
    rw [show n + 1 - 1 = n by omega] at h1
    show _ ≤ V d (n + 1) * 10 + d (n + 1)
    omega
theorem V_pre {d : Nat → Nat} {n : Nat} (h : ∀ i, i < n → d i ≤ 9) : ∀ j, j ≤ n → V d n / 10 ^ j = V d (n - j) := by
  intro j
  induction j with
  | zero => intro _; simp
  | succ j ih =>
    intro hj
    rw [Nat.pow_succ, ← Nat.div_div_eq_div_mul, ih (by omega)]
    obtain ⟨m, hm⟩ : ∃ m, n - j = m + 1 := ⟨n - j - 1, by omega⟩
    rw [hm, show n - (j + 1) = m by omega]
    show (V d m * 10 + d m) / 10 = V d m
    have := h m (by omega)
    omega
theorem V_digit {d : Nat → Nat} {n r : Nat} (h : ∀ i, i < n → d i ≤ 9) (hr : r < n) : V d n / 10 ^ (n - 1 - r) % 10 = d r := by
  rw [V_pre h (n - 1 - r) (by omega), show n - (n - 1 - r) = r + 1 by omega]
  show (V d r * 10 + d r) % 10 = d r
  have := h r hr
  omega
theorem V_between {d : Nat → Nat} {n m : Nat} (h : ∀ i, i < n → d i ≤ 9) (hm : m ≤ n) : V d m * 10 ^ (n - m) ≤ V d n ∧ V d n < (V d m + 1) * 10 ^ (n - m) := by
  have e := V_pre h (n - m) (by omega)
  rw [show n - (n - m) = m by omega] at e
  have hp : 0 < 10 ^ (n - m) := Nat.pow_pos (by omega)
  rw [← e]
  exact ⟨Nat.div_mul_le_self _ _, (Nat.div_lt_iff_lt_mul hp).1 (Nat.lt_succ_self _)⟩

theorem wrap1 (i : Nat) (h : i ≤ 1000) : wrap64 ((i : Int) + 1) = ((i + 1 : Nat) : Int) := by unfold wrap64; omega
set_option maxHeartbeats 1000000 in
/-- Which of two rows of digits is less, as fractions. -/
theorem less_at (l : List Int) (a : ByteArray) (dl da : Nat → Nat) (h1 : ∀ i, i < l.length → rd l (i : Int) = (dl i : Int) + 48) (h2 : ∀ i, i < a.size → bt a (i : Int) = (da i : Int) + 48)
    (g1 : ∀ i, i < l.length → dl i ≤ 9) (g2 : ∀ i, i < a.size → da i ≤ 9) (h5 : V da a.size % 10 ≠ 0) (hs : a.size ≤ 1000) :
    ∀ (fuel i : Nat), a.size < fuel + i → i ≤ a.size → i ≤ l.length → V dl i = V da i →
      ∃ r, strconv_prefixIsLessThan.l0 fuel l a (i : Int) = some r ∧ (r = true → V dl l.length * 10 ^ a.size < V da a.size * 10 ^ l.length) ∧ (r = false → V da a.size * 10 ^ l.length ≤ V dl l.length * 10 ^ a.size) := by
  intro fuel
  induction fuel with
  | zero => intro i hi hi2; omega
  | succ fuel ih =>
    intro i hf hi hil he
    rw [strconv_prefixIsLessThan.l0]
    have bl := V_between g1 hil
    have ba := V_between g2 hi
    have hq : ∀ x y z : Nat, x * 10 ^ y * 10 ^ z = x * 10 ^ (y + z) := fun x y z => by rw [Nat.mul_assoc, ← Nat.pow_add]
    by_cases c1 : (i : Int) < (a.size : Int)
    · rw [if_pos c1]
      by_cases c2 : (i : Int) ≥ (l.length : Int)
      · rw [if_pos c2]
        refine ⟨true, rfl, fun _ => ?_, fun e => by cases e⟩
        obtain rfl : i = l.length := by omega
        -- the row is at its end
        have e1 : a.size - l.length + l.length = a.size := by omega
        have h3 : V da a.size ≠ V da l.length * 10 ^ (a.size - l.length) := fun e => by
          obtain ⟨m, hm⟩ : ∃ m, a.size - l.length = m + 1 := ⟨a.size - l.length - 1, by omega⟩
          rw [hm, Nat.pow_succ, ← Nat.mul_assoc] at e
          omega
        have h4 : V da l.length * 10 ^ (a.size - l.length) < V da a.size := Nat.lt_of_le_of_ne ba.1 (Ne.symm h3)
        calc V dl l.length * 10 ^ a.size = V da l.length * 10 ^ (a.size - l.length) * 10 ^ l.length := by rw [hq, e1, he]
          _ < V da a.size * 10 ^ l.length := Nat.mul_lt_mul_of_pos_right h4 (Nat.pow_pos (by omega))
      · rw [if_neg c2, if_pos (by omega : (0 : Int) ≤ (i : Int)), if_pos (by omega : (i : Int) < (l.length : Int)), h1 i (by omega), h2 i (by omega)]
        have n1 : V dl (i + 1) = V dl i * 10 + dl i := rfl
        have n2 : V da (i + 1) = V da i * 10 + da i := rfl
        have bl2 := V_between g1 (show i + 1 ≤ l.length by omega)
        have ba2 := V_between g2 (show i + 1 ≤ a.size by omega)
        have e1 : l.length - (i + 1) + a.size = a.size - (i + 1) + l.length := by omega
        by_cases c3 : (dl i : Int) + 48 = (da i : Int) + 48
        · rw [if_pos c3]
          have hv : V dl (i + 1) = V da (i + 1) := by rw [n1, n2, he]; omega
          have b1 : a.size < fuel + (i + 1) := by omega
          have b2 : i + 1 ≤ a.size := by omega
          have b3 : i + 1 ≤ l.length := by omega
          have b4 : i ≤ 1000 := by omega
          have R := ih (i + 1) b1 b2 b3 hv
          rw [wrap1 i b4]
          exact R
        · rw [if_neg c3]
          refine ⟨_, rfl, fun e => ?_, fun e => ?_⟩
          · have h3 := of_decide_eq_true e
            have h4 : V dl (i + 1) + 1 ≤ V da (i + 1) := by rw [n1, n2, he]; omega
            calc V dl l.length * 10 ^ a.size < (V dl (i + 1) + 1) * 10 ^ (l.length - (i + 1)) * 10 ^ a.size := Nat.mul_lt_mul_of_pos_right bl2.2 (Nat.pow_pos (by omega))
              _ = (V dl (i + 1) + 1) * 10 ^ (a.size - (i + 1) + l.length) := by rw [hq, e1]
              _ ≤ V da (i + 1) * 10 ^ (a.size - (i + 1) + l.length) := Nat.mul_le_mul_right _ h4
              _ = V da (i + 1) * 10 ^ (a.size - (i + 1)) * 10 ^ l.length := by rw [hq]
              _ ≤ V da a.size * 10 ^ l.length := Nat.mul_le_mul_right _ ba2.1
          · have h3 := of_decide_eq_false e
            have h4 : V da (i + 1) + 1 ≤ V dl (i + 1) := by rw [n1, n2, he]; omega
            refine Nat.le_of_lt ?_
            calc V da a.size * 10 ^ l.length < (V da (i + 1) + 1) * 10 ^ (a.size - (i + 1)) * 10 ^ l.length := Nat.mul_lt_mul_of_pos_right ba2.2 (Nat.pow_pos (by omega))
              _ = (V da (i + 1) + 1) * 10 ^ (l.length - (i + 1) + a.size) := by rw [hq, e1]
              _ ≤ V dl (i + 1) * 10 ^ (l.length - (i + 1) + a.size) := Nat.mul_le_mul_right _ h4
              _ = V dl (i + 1) * 10 ^ (l.length - (i + 1)) * 10 ^ a.size := by rw [hq]
              _ ≤ V dl l.length * 10 ^ a.size := Nat.mul_le_mul_right _ bl2.1
    · rw [if_neg c1]
      refine ⟨false, rfl, (fun e => by cases e), fun _ => ?_⟩
      obtain rfl : i = a.size := by omega
      have e1 : l.length - a.size + a.size = l.length := by omega
      calc V da a.size * 10 ^ l.length = V dl a.size * 10 ^ (l.length - a.size) * 10 ^ a.size := by rw [hq, e1, he]
        _ ≤ V dl l.length * 10 ^ a.size := Nat.mul_le_mul_right _ bl.1

/-- The digit that is carried on. -/
theorem carry (N m K : Nat) : (N % 10 ^ (m + 1)) * K / 10 ^ (m + 1) = ((N / 10 ^ m % 10) * K + (N % 10 ^ m) * K / 10 ^ m) / 10 := by
  have hp : 0 < 10 ^ m := Nat.pow_pos (by omega)
  rw [Nat.mod_pow_succ, Nat.pow_succ, ← Nat.div_div_eq_div_mul]
  have e : (N % 10 ^ m + 10 ^ m * (N / 10 ^ m % 10)) * K = N % 10 ^ m * K + 10 ^ m * ((N / 10 ^ m % 10) * K) := by rw [Nat.add_mul, Nat.mul_assoc]
  rw [e, Nat.add_mul_div_left _ _ hp, Nat.add_comm]
theorem carry_lt (N m K : Nat) (hK : 0 < K) : (N % 10 ^ m) * K / 10 ^ m < K := by
  have hp : 0 < 10 ^ m := Nat.pow_pos (by omega)
  rw [Nat.div_lt_iff_lt_mul hp, Nat.mul_comm]
  exact Nat.mul_lt_mul_of_pos_left (Nat.mod_lt _ hp) hK

theorem left_bounds {N nd k len dl : Nat} (hN1 : 10 ^ (nd - 1) ≤ N) (hN2 : N < 10 ^ nd) (hnd : 1 ≤ nd) (hdl : dl + len = k + 1) (hlen : 1 ≤ len) (h5a : 10 ^ (len - 1) < 5 ^ k) (h5b : 5 ^ k < 10 ^ len) (r : Bool)
    (h1 : r = true → N * 10 ^ len < 5 ^ k * 10 ^ nd) (h2 : r = false → 5 ^ k * 10 ^ nd ≤ N * 10 ^ len) (δ : Nat) (hδ : δ = if r then dl - 1 else dl) :
    1 ≤ dl ∧ N * 2 ^ k < 10 ^ (nd + δ) ∧ 10 ^ (nd + δ - 1) ≤ N * 2 ^ k := by
  have hten : 5 ^ k * 2 ^ k = 10 ^ k := by rw [← Nat.mul_pow]
  have hk : len ≤ k := by
    rcases Nat.lt_or_ge k len with g | g
    · have h3 : 10 ^ k ≤ 10 ^ (len - 1) := Nat.pow_le_pow_right (by omega) (by omega)
      have h4 : 5 ^ k ≤ 10 ^ k := Nat.pow_le_pow_left (by omega) k
      omega
    · exact g
  have hdl1 : dl = k - len + 1 := by omega
  have p2 : 0 < 2 ^ k := Nat.pow_pos (by omega)
  have pl : 0 < 10 ^ len := Nat.pow_pos (by omega)
  -- 2 ^ k against the tens
  have t1 : 2 ^ k < 10 ^ dl := by
    have : 10 ^ (len - 1) * 2 ^ k < 10 ^ (len - 1) * 10 ^ dl := by
      rw [← Nat.pow_add, show len - 1 + dl = k by omega, ← hten]
      exact Nat.mul_lt_mul_of_pos_right h5a p2
    exact Nat.lt_of_mul_lt_mul_left this
  have t2 : 10 ^ (dl - 1) ≤ 2 ^ k := by
    have : 10 ^ len * 10 ^ (dl - 1) ≤ 10 ^ len * 2 ^ k := by
      rw [← Nat.pow_add, show len + (dl - 1) = k by omega, ← hten]
      exact Nat.mul_le_mul_right _ (Nat.le_of_lt h5b)
    exact Nat.le_of_mul_le_mul_left this pl
  refine ⟨by omega, ?_, ?_⟩
  · cases r
    · rw [show δ = dl from hδ, Nat.pow_add]
      exact Nat.mul_lt_mul_of_lt_of_le hN2 (Nat.le_of_lt t1) (Nat.pow_pos (by omega))
    · rw [show δ = dl - 1 from hδ]
      have h3 : N * 2 ^ k * 10 ^ len < 10 ^ (nd + (dl - 1)) * 10 ^ len := by
        calc N * 2 ^ k * 10 ^ len = N * 10 ^ len * 2 ^ k := by rw [Nat.mul_assoc, Nat.mul_comm (2 ^ k), ← Nat.mul_assoc]
          _ < 5 ^ k * 10 ^ nd * 2 ^ k := Nat.mul_lt_mul_of_pos_right (h1 rfl) p2
          _ = 5 ^ k * 2 ^ k * 10 ^ nd := by rw [Nat.mul_assoc, Nat.mul_comm (10 ^ nd), ← Nat.mul_assoc]
          _ = 10 ^ (nd + (dl - 1)) * 10 ^ len := by rw [hten, ← Nat.pow_add, ← Nat.pow_add]; congr 1; omega
      exact Nat.lt_of_mul_lt_mul_right h3
  · cases r
    · rw [show δ = dl from hδ]
      have h3 : 10 ^ (nd + dl - 1) * 10 ^ len ≤ N * 2 ^ k * 10 ^ len := by
        calc 10 ^ (nd + dl - 1) * 10 ^ len = 5 ^ k * 2 ^ k * 10 ^ nd := by rw [hten, ← Nat.pow_add, ← Nat.pow_add]; congr 1; omega
          _ = 5 ^ k * 10 ^ nd * 2 ^ k := by rw [Nat.mul_assoc, Nat.mul_comm (2 ^ k), ← Nat.mul_assoc]
          _ ≤ N * 10 ^ len * 2 ^ k := Nat.mul_le_mul_right _ (h2 rfl)
          _ = N * 2 ^ k * 10 ^ len := by rw [Nat.mul_assoc, Nat.mul_comm (10 ^ len), ← Nat.mul_assoc]
      exact Nat.le_of_mul_le_mul_right h3 pl
    · rw [show δ = dl - 1 from hδ, show nd + (dl - 1) - 1 = nd - 1 + (dl - 1) by omega, Nat.pow_add]
      exact Nat.mul_le_mul hN1 t2

/-- The table, checked. -/
def chk (k : Nat) : Bool := match cheats[k]? with
  | some (d, s) => s.all (fun c => 48 ≤ c && c ≤ 57) && d + s.length == k + 1 && V (fun i => s.getD i 48 - 48) s.length == 5 ^ k && decide (10 ^ (s.length - 1) < 5 ^ k) && decide (5 ^ k < 10 ^ s.length) && 5 ^ k % 10 != 0 && decide (s.length ≤ 100) && decide (1 ≤ s.length)
  | none => false
set_option maxRecDepth 100000 in
theorem chk_all : ∀ k : Fin 60, chk (k.val + 1) = true := by decide +kernel
/-- What the table says of k. -/
structure Cheat (k dl : Nat) (s : List Nat) : Prop where
  a0 : cheatAt (k * 2) = .int .i64 (dl : Int)
  a1 : cheatAt (k * 2 + 1) = .string ⟨(s.map fun c => UInt8.ofNat c).toArray⟩
  dig : ∀ i, i < s.length → 48 ≤ s.getD i 48 ∧ s.getD i 48 ≤ 57
  sum : dl + s.length = k + 1
  val : V (fun i => s.getD i 48 - 48) s.length = 5 ^ k
  lo : 10 ^ (s.length - 1) < 5 ^ k
  hi : 5 ^ k < 10 ^ s.length
  odd : 5 ^ k % 10 ≠ 0
  len : s.length ≤ 100
  pos : 1 ≤ s.length
theorem cheat_of (k : Nat) (h1 : 1 ≤ k) (h2 : k ≤ 60) : ∃ dl s, Cheat k dl s := by
  have h := chk_all ⟨k - 1, by omega⟩
  have e : (k - 1) + 1 = k := by omega
  simp only [e] at h
  unfold chk at h
  cases hc : cheats[k]? with
  | none => rw [hc] at h; cases h
  | some p =>
    obtain ⟨d, s⟩ := p
    rw [hc] at h
    simp only [Bool.and_eq_true, beq_iff_eq, bne_iff_ne, decide_eq_true_eq, List.all_eq_true] at h
    obtain ⟨⟨⟨⟨⟨⟨⟨q1, q2⟩, q3⟩, q4⟩, q5⟩, q6⟩, q7⟩, q8⟩ := h
    refine ⟨d, s, ?_, ?_, fun i hi => ?_, q2, q3, q4, q5, q6, q7, q8⟩
    · unfold cheatAt
      rw [show k * 2 / 2 = k by omega, hc]
      simp only
      rw [if_pos (by omega)]
    · unfold cheatAt
      rw [show (k * 2 + 1) / 2 = k by omega, hc]
      simp only
      rw [if_neg (by omega)]
    · have := q1 s[i] (List.getElem_mem hi)
      rw [List.getD_eq_getElem?_getD, List.getElem?_eq_getElem hi]
      simpa using this
theorem cheat_bt {k dl : Nat} {s : List Nat} (h : Cheat k dl s) (i : Nat) (hi : i < s.length) : bt ⟨(s.map fun c => UInt8.ofNat c).toArray⟩ (i : Int) = ((s.getD i 48 - 48 : Nat) : Int) + 48 := by
  have hd := h.dig i hi
  have hs : i < (⟨(s.map fun c => UInt8.ofNat c).toArray⟩ : ByteArray).size := by
    show i < (s.map fun c => UInt8.ofNat c).toArray.size
    simpa using hi
  rw [← bt_at _ (i : Int) hs]
  have e : (⟨(s.map fun c => UInt8.ofNat c).toArray⟩ : ByteArray)[i]'hs = UInt8.ofNat (s.getD i 48) := by
    show (s.map fun c => UInt8.ofNat c).toArray[i]'hs = _
    rw [List.getD_eq_getElem?_getD, List.getElem?_eq_getElem hi]
    simp
  have e2 : ((⟨(s.map fun c => UInt8.ofNat c).toArray⟩ : ByteArray)[(i : Int).toNat]'hs) = UInt8.ofNat (s.getD i 48) := e
  rw [e2, UInt8.toNat_ofNat']
  omega
theorem cheat_size (s : List Nat) : (⟨(s.map fun c => UInt8.ofNat c).toArray⟩ : ByteArray).size = s.length := by
  show (s.map fun c => UInt8.ofNat c).toArray.size = _
  simp
end Go.Proofs.YtjniglmijikojaaGreatDoor.Text
