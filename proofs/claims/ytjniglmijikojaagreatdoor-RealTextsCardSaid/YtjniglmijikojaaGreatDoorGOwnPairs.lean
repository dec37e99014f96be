/- The pairs of exponents at which numbers are scaled: each is looked at. No conditions. -/
import Derived.Test.YtjniglmijikojaaGreatDoorGOwnFarey
import GoSem.PinnedTables
namespace Go.Proofs.YtjniglmijikojaaGreatDoor.Own

def l10 (x : Int) : Int := x * 78913 / 262144
def l2 (x : Int) : Int := x * 108853 / 32768
def skw (x : Int) : Int := (x * 631305 - 261663) / 2097152
def row10 (p : Int) : Nat × Nat := Go.Pinned.pow10Rows.getD (p + 348).toNat (0, 0)
/-- 4 * 10^p * 2^e as a quotient. -/
def nA (e p : Int) : Nat := 2 ^ (e + p + 2).toNat * 5 ^ p.toNat
def nB (e p : Int) : Nat := 2 ^ (-(e + p + 2)).toNat * 5 ^ (-p).toNat
def sh (e p : Int) : Nat := (-(e + l2 p + 3)).toNat

/-- The table's number at p is the power, rounded up, for the shift that goes with e. -/
def okTab (e p : Int) : Bool :=
  let r := row10 p; let A := nA e p; let B := nB e p; let S := 340282366920938463463374607431768211456 * 2 ^ sh e p
  decide (A * S + r.2 * B ≤ r.1 * 18446744073709551616 * B) && decide (r.1 * 18446744073709551616 * B < A * S + r.2 * B + B) && decide (r.2 < 18446744073709551616) && decide (9223372036854775808 ≤ r.1)
/-- No product of a number up to N, times k, lies near a whole number. -/
def okNear (e p : Int) (k N : Nat) : Bool :=
  let B := nB e p; let Δ := B / (2 ^ sh e p * 9223372036854775808) + 1
  decide (Δ ≤ 1) || chkAt (k * nA e p) B N Δ

def okB (e : Int) : Bool := okTab e (-l10 (e + 11)) && okNear e (-l10 (e + 11)) 512 36028797018963968
def okA (e : Int) : Bool := okTab e (-skw (e + 11)) && okNear e (-skw (e + 11)) 512 36028797018963968
def okC (e : Int) : Bool := okTab e 324 && okNear e 324 (2 ^ (-1074 - e - 1).toNat) (2 ^ (65 - (-1074 - e)).toNat)
def okP (p : Int) : Bool := okTab (-11 - l2 p) p && okNear (-11 - l2 p) p 128 144115188075855872
def okS (p : Int) (b : Nat) : Bool := decide (-1021 - l2 p < b) || decide (1013 + (b : Int) + l2 p ≤ -64) || (okTab (1010 + b) p && okNear (1010 + b) p (2 ^ (64 - b)) (2 ^ b))

theorem all_at {f : Nat → Bool} {o n : Nat} (h : (List.range n).all (fun i => f (o + i)) = true) (i : Nat) (h1 : o ≤ i) (h2 : i < o + n) : f i = true := by
  have := List.all_eq_true.1 h (i - o) (List.mem_range.2 (by omega))
  rwa [show o + (i - o) = i by omega] at this
theorem fmtB_0 : (List.range 520).all (fun i => okB (((0 + i : Nat) : Int) - 1085)) = true := by decide +kernel
theorem fmtB_520 : (List.range 520).all (fun i => okB (((520 + i : Nat) : Int) - 1085)) = true := by decide +kernel
theorem fmtB_1040 : (List.range 520).all (fun i => okB (((1040 + i : Nat) : Int) - 1085)) = true := by decide +kernel
theorem fmtB_1560 : (List.range 497).all (fun i => okB (((1560 + i : Nat) : Int) - 1085)) = true := by decide +kernel
theorem fmtB_all (e : Int) (h1 : -1085 ≤ e) (h2 : e ≤ 971) : okB e = true := by
  obtain ⟨i, rfl⟩ : ∃ i : Nat, e = (i : Int) - 1085 := ⟨(e + 1085).toNat, by omega⟩
  have hi : i < 2057 := by omega
  rcases Nat.lt_or_ge i 520 with h | h0
  · exact all_at (f := fun i => okB ((i : Int) - 1085)) fmtB_0 i (by omega) (by omega)
  rcases Nat.lt_or_ge i 1040 with h | h520
  · exact all_at (f := fun i => okB ((i : Int) - 1085)) fmtB_520 i (by omega) (by omega)
  rcases Nat.lt_or_ge i 1560 with h | h1040
  · exact all_at (f := fun i => okB ((i : Int) - 1085)) fmtB_1040 i (by omega) (by omega)
  rcases Nat.lt_or_ge i 2057 with h | h1560
  · exact all_at (f := fun i => okB ((i : Int) - 1085)) fmtB_1560 i (by omega) (by omega)
  omega
theorem fmtA_0 : (List.range 520).all (fun i => okA (((0 + i : Nat) : Int) - 1084)) = true := by decide +kernel
theorem fmtA_520 : (List.range 520).all (fun i => okA (((520 + i : Nat) : Int) - 1084)) = true := by decide +kernel
theorem fmtA_1040 : (List.range 520).all (fun i => okA (((1040 + i : Nat) : Int) - 1084)) = true := by decide +kernel
theorem fmtA_1560 : (List.range 496).all (fun i => okA (((1560 + i : Nat) : Int) - 1084)) = true := by decide +kernel
theorem fmtA_all (e : Int) (h1 : -1084 ≤ e) (h2 : e ≤ 971) : okA e = true := by
  obtain ⟨i, rfl⟩ : ∃ i : Nat, e = (i : Int) - 1084 := ⟨(e + 1084).toNat, by omega⟩
  have hi : i < 2056 := by omega
  rcases Nat.lt_or_ge i 520 with h | h0
  · exact all_at (f := fun i => okA ((i : Int) - 1084)) fmtA_0 i (by omega) (by omega)
  rcases Nat.lt_or_ge i 1040 with h | h520
  · exact all_at (f := fun i => okA ((i : Int) - 1084)) fmtA_520 i (by omega) (by omega)
  rcases Nat.lt_or_ge i 1560 with h | h1040
  · exact all_at (f := fun i => okA ((i : Int) - 1084)) fmtA_1040 i (by omega) (by omega)
  rcases Nat.lt_or_ge i 2056 with h | h1560
  · exact all_at (f := fun i => okA ((i : Int) - 1084)) fmtA_1560 i (by omega) (by omega)
  omega
theorem fmtC_0 : (List.range 52).all (fun i => okC (((0 + i : Nat) : Int) - 1137)) = true := by decide +kernel
theorem fmtC_all (e : Int) (h1 : -1137 ≤ e) (h2 : e ≤ -1086) : okC e = true := by
  obtain ⟨i, rfl⟩ : ∃ i : Nat, e = (i : Int) - 1137 := ⟨(e + 1137).toNat, by omega⟩
  have hi : i < 52 := by omega
  rcases Nat.lt_or_ge i 52 with h | h0
  · exact all_at (f := fun i => okC ((i : Int) - 1137)) fmtC_0 i (by omega) (by omega)
  omega
theorem par_0 : (List.range 330).all (fun i => okP (((0 + i : Nat) : Int) - 345)) = true := by decide +kernel
theorem par_330 : (List.range 326).all (fun i => okP (((330 + i : Nat) : Int) - 345)) = true := by decide +kernel
theorem par_all (e : Int) (h1 : -345 ≤ e) (h2 : e ≤ 310) : okP e = true := by
  obtain ⟨i, rfl⟩ : ∃ i : Nat, e = (i : Int) - 345 := ⟨(e + 345).toNat, by omega⟩
  have hi : i < 656 := by omega
  rcases Nat.lt_or_ge i 330 with h | h0
  · exact all_at (f := fun i => okP ((i : Int) - 345)) par_0 i (by omega) (by omega)
  rcases Nat.lt_or_ge i 656 with h | h330
  · exact all_at (f := fun i => okP ((i : Int) - 345)) par_330 i (by omega) (by omega)
  omega
theorem sub_0 : (List.range 200).all (fun i => (List.range 58).all fun b => okS (((0 + i : Nat) : Int) - 345) b) = true := by decide +kernel
theorem sub_all (p : Int) (h1 : -345 ≤ p) (h2 : p ≤ -150) (b : Nat) (hb : b < 58) : okS p b = true := by
  obtain ⟨i, rfl⟩ : ∃ i : Nat, p = (i : Int) - 345 := ⟨(p + 345).toNat, by omega⟩
  have := all_at (f := fun i => (List.range 58).all fun b => okS ((i : Int) - 345) b) sub_0 i (by omega) (by omega)
  exact List.all_eq_true.1 this b (List.mem_range.2 hb)

theorem near_spec {e p : Int} {k N : Nat} (h : okNear e p k N = true) (X : Nat) (hX : 0 < X) (hN : X ≤ N) (n : Nat)
    (h1 : X * k * nA e p * (2 ^ sh e p * 9223372036854775808) < n * nB e p * (2 ^ sh e p * 9223372036854775808) + nB e p)
    (h2 : n * nB e p * (2 ^ sh e p * 9223372036854775808) < X * k * nA e p * (2 ^ sh e p * 9223372036854775808) + nB e p) : X * k * nA e p = n * nB e p := by
  unfold okNear at h
  have hM : 0 < 2 ^ sh e p * 9223372036854775808 := Nat.mul_pos (Nat.pow_pos (by omega)) (by decide)
  simp only at h
  generalize 2 ^ sh e p * 9223372036854775808 = M at *
  generalize nB e p = B at *
  have hd : B < (B / M + 1) * M := by
    have := Nat.div_add_mod B M
    have := Nat.mod_lt B hM
    rw [Nat.add_mul, Nat.one_mul, Nat.mul_comm (B / M)]
    omega
  have key : ∀ u v : Nat, u * M < v * M + B → u < v + (B / M + 1) := by
    intro u v h
    apply Nat.lt_of_mul_lt_mul_right (a := M)
    rw [Nat.add_mul]
    omega
  have k1 := key _ _ h1
  have k2 := key _ _ h2
  rw [Bool.or_eq_true, decide_eq_true_eq] at h
  rcases h with h | h
  · omega
  · rw [Nat.mul_assoc] at k1 k2 ⊢
    exact chkAt_spec h X n hX hN k1 k2

theorem nB_pos (e p : Int) : 0 < nB e p := Nat.mul_pos (Nat.pow_pos (by omega)) (Nat.pow_pos (by omega))
theorem scaled {e p : Int} {k N : Nat} (ht : okTab e p = true) (hn : okNear e p k N = true) (X : Nat) (hX : 0 < X) (hN : X ≤ N) (h2 : 2 ≤ X * k) (hW : X * k < 18446744073709551616) :
    usc (row10 p).1 (row10 p).2 (sh e p) (X * k) = unr (X * k * nA e p) (nB e p) := by
  unfold okTab at ht
  simp only [Bool.and_eq_true, decide_eq_true_eq] at ht
  obtain ⟨⟨⟨t1, t2⟩, t3⟩, t4⟩ := ht
  have hh : 0 < X * k * (row10 p).1 / 18446744073709551616 := by
    apply Nat.div_pos _ (by decide)
    calc 18446744073709551616 = 2 * 9223372036854775808 := by decide
      _ ≤ X * k * (row10 p).1 := Nat.mul_le_mul h2 t4
  exact usc_exact _ _ _ _ _ _ (by omega) hW t3 (nB_pos e p) hh t1 t2 (fun n => near_spec hn X hX hN n)
end Go.Proofs.YtjniglmijikojaaGreatDoor.Own
