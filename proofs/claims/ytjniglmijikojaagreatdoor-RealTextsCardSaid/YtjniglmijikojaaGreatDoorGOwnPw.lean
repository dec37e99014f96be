/- Powers of two and of ten with exponents of either sign, on one scale. No conditions. The shortest digits of a number lie in the number's own interval. No conditions. What readFloat makes of a text, byte by byte, in plain Lean. No conditions. What fmtEFG writes, as bytes, in plain Lean. No conditions. -/
import Derived.Test.YtjniglmijikojaaGreatDoorGOwnPairs
import Derived.Test.YtjniglmijikojaaGreatDoorGOwnFarey
namespace Go.Proofs.YtjniglmijikojaaGreatDoor.Own

/-- 2^a * 10^P, times a number that is the same for all. -/
def pw (a P : Int) : Nat := 2 ^ (a + P + 8000).toNat * 5 ^ (P + 8000).toNat
def inr (x : Int) : Prop := -3000 ≤ x ∧ x ≤ 3000

theorem pw_pos (a P : Int) : 0 < pw a P := Nat.mul_pos (Nat.pow_pos (by omega)) (Nat.pow_pos (by omega))
theorem pw_two {a P : Int} (i : Nat) (ha : inr a) (hP : inr P) : pw (a + i) P = 2 ^ i * pw a P := by
  unfold inr at *
  unfold pw
  rw [show (a + i + P + 8000).toNat = i + (a + P + 8000).toNat by omega, Nat.pow_add, Nat.mul_assoc]
theorem pw_ten {a P : Int} (t : Nat) (ha : inr a) (hP : inr P) : pw a (P + t) = 10 ^ t * pw a P := by
  unfold inr at *
  unfold pw
  rw [show (a + (P + t) + 8000).toNat = t + (a + P + 8000).toNat by omega, show (P + t + 8000).toNat = t + (P + 8000).toNat by omega, Nat.pow_add, Nat.pow_add,
    show (10 : Nat) = 2 * 5 by decide, Nat.mul_pow]
  ac_rfl
theorem pw_le {a P a' P' : Int} {K K' : Nat} (t : Int) (h1 : inr a) (h2 : inr P) (h3 : inr a') (h4 : inr P') (h5 : inr (P + t)) (h6 : inr (P' + t)) : K * pw a (P + t) ≤ K' * pw a' (P' + t) ↔ K * pw a P ≤ K' * pw a' P' := by
  rcases Int.le_total 0 t with ht | ht
  · obtain ⟨n, rfl⟩ := Int.eq_ofNat_of_zero_le ht
    rw [pw_ten n h1 h2, pw_ten n h3 h4, Nat.mul_left_comm, Nat.mul_left_comm K']
    exact Nat.mul_le_mul_left_iff (Nat.pow_pos (by omega))
  · obtain ⟨n, hn⟩ := Int.eq_ofNat_of_zero_le (show 0 ≤ -t by omega)
    have e1 : P = (P + t) + (n : Int) := by have : -t = (n : Int) := hn; omega
    have e2 : P' = (P' + t) + (n : Int) := by have : -t = (n : Int) := hn; omega
    have k1 := pw_ten (a := a) (P := P + t) n h1 h5
    have k2 := pw_ten (a := a') (P := P' + t) n h3 h6
    rw [← e1] at k1
    rw [← e2] at k2
    rw [k1, k2, Nat.mul_left_comm K, Nat.mul_left_comm K']
    exact (Nat.mul_le_mul_left_iff (Nat.pow_pos (by omega))).symm
theorem pw_le2 {a P a' P' : Int} {K K' : Nat} (t : Int) (h1 : inr a) (h2 : inr P) (h3 : inr a') (h4 : inr P') (h5 : inr (a + t)) (h6 : inr (a' + t)) : K * pw (a + t) P ≤ K' * pw (a' + t) P' ↔ K * pw a P ≤ K' * pw a' P' := by
  rcases Int.le_total 0 t with ht | ht
  · obtain ⟨n, rfl⟩ := Int.eq_ofNat_of_zero_le ht
    rw [pw_two n h1 h2, pw_two n h3 h4, Nat.mul_left_comm, Nat.mul_left_comm K']
    exact Nat.mul_le_mul_left_iff (Nat.pow_pos (by omega))
  · obtain ⟨n, hn⟩ := Int.eq_ofNat_of_zero_le (show 0 ≤ -t by omega)
    have e1 : a = (a + t) + (n : Int) := by have : -t = (n : Int) := hn; omega
    have e2 : a' = (a' + t) + (n : Int) := by have : -t = (n : Int) := hn; omega
    have k1 := pw_two (a := a + t) (P := P) n h5 h2
    have k2 := pw_two (a := a' + t) (P := P') n h6 h4
    rw [← e1] at k1
    rw [← e2] at k2
    rw [k1, k2, Nat.mul_left_comm K, Nat.mul_left_comm K']
    exact (Nat.mul_le_mul_left_iff (Nat.pow_pos (by omega))).symm

theorem nAB_core (a1 a2 a3 a4 b1 b2 b3 b4 : Nat) (k1 : a1 + a2 = a3 + a4) (k2 : b1 + b2 = b3 + b4) : 2 ^ a1 * 5 ^ b1 * (2 ^ a2 * 5 ^ b2) = 2 ^ a3 * 5 ^ b3 * (2 ^ a4 * 5 ^ b4) := by
  calc _ = (2 ^ a1 * 2 ^ a2) * (5 ^ b1 * 5 ^ b2) := by ac_rfl
    _ = (2 ^ a3 * 2 ^ a4) * (5 ^ b3 * 5 ^ b4) := by rw [← Nat.pow_add, ← Nat.pow_add, ← Nat.pow_add, ← Nat.pow_add, k1, k2]
    _ = _ := by ac_rfl
/-- The quotient of a pair, on the scale. -/
theorem nAB (e p : Int) (he : inr e) (hp : inr p) : nA e p * pw 0 0 = nB e p * pw (e + 2) p := by
  unfold inr at *
  exact nAB_core _ _ _ _ _ _ _ _ (by omega) (by omega)
theorem pw00 : ∃ Z, pw 0 0 = Z := ⟨_, rfl⟩
theorem nAB_le {e p : Int} (he : inr e) (hp : inr p) (X Y : Nat) : X * nA e p ≤ Y * nB e p ↔ X * pw (e + 2) p ≤ Y * pw 0 0 := by
  have h := nAB e p he hp
  have hB := nB_pos e p
  have hP := pw_pos 0 0
  obtain ⟨Z, hZ⟩ := pw00
  rw [hZ] at h hP ⊢
  clear hZ
  constructor
  · intro h1
    apply Nat.le_of_mul_le_mul_left _ hB
    calc nB e p * (X * pw (e + 2) p) = X * (nB e p * pw (e + 2) p) := by ac_rfl
      _ = X * nA e p * Z := by rw [← h, Nat.mul_assoc]
      _ ≤ Y * nB e p * Z := Nat.mul_le_mul_right _ h1
      _ = _ := by ac_rfl
  · intro h1
    apply Nat.le_of_mul_le_mul_right _ hP
    calc X * nA e p * Z = nB e p * (X * pw (e + 2) p) := by rw [Nat.mul_assoc, h]; ac_rfl
      _ ≤ nB e p * (Y * Z) := Nat.mul_le_mul_left _ h1
      _ = _ := by ac_rfl
theorem nAB_ge {e p : Int} (he : inr e) (hp : inr p) (X Y : Nat) : Y * nB e p ≤ X * nA e p ↔ Y * pw 0 0 ≤ X * pw (e + 2) p := by
  have h := nAB e p he hp
  have hB := nB_pos e p
  have hP := pw_pos 0 0
  obtain ⟨Z, hZ⟩ := pw00
  rw [hZ] at h hP ⊢
  clear hZ
  constructor
  · intro h1
    apply Nat.le_of_mul_le_mul_left _ hB
    calc nB e p * (Y * Z) = Y * nB e p * Z := by ac_rfl
      _ ≤ X * nA e p * Z := Nat.mul_le_mul_right _ h1
      _ = X * (nB e p * pw (e + 2) p) := by rw [Nat.mul_assoc, h]
      _ = _ := by ac_rfl
  · intro h1
    apply Nat.le_of_mul_le_mul_right _ hP
    calc Y * nB e p * Z = nB e p * (Y * Z) := by ac_rfl
      _ ≤ nB e p * (X * pw (e + 2) p) := Nat.mul_le_mul_left _ h1
      _ = X * nA e p * Z := by rw [Nat.mul_assoc X, h]; ac_rfl
end Go.Proofs.YtjniglmijikojaaGreatDoor.Own
namespace Go.Proofs.YtjniglmijikojaaGreatDoor.Own

/-- d * 10^P lies in the interval of M * 2^q. -/
def InX (M : Nat) (q : Int) (d : Nat) (P : Int) : Prop :=
  (if M = 4503599627370496 ∧ -1074 < q then 4 * M - 1 else 4 * M - 2) * pw q 0 ≤ d * pw 2 P ∧ d * pw 2 P ≤ (4 * M + 2) * pw q 0 ∧
  (M % 2 = 1 → (4 * M - 2) * pw q 0 < d * pw 2 P ∧ d * pw 2 P < (4 * M + 2) * pw q 0)

def sfp (m : Nat) (e : Int) (z : Nat) : Int := if m = 9223372036854775808 ∧ -1085 < e then -skw (e + z) else -l10 (e + z)
def sfm (m : Nat) (e : Int) (z : Nat) : Nat := if m = 9223372036854775808 ∧ -1085 < e then m - 2 ^ (z - 2) else m - 2 ^ (z - 1)
/-- shortFloat: z is 11, or more where the number is subnormal. -/
def sfr (m : Nat) (e : Int) (z : Nat) : Nat × Bool :=
  let p := sfp m e z; let r := row10 p; let s := sh e p
  shortOf (usc r.1 r.2 s (sfm m e z)) (usc r.1 r.2 s (m + 2 ^ (z - 1))) (usc r.1 r.2 s m) (m / 2 ^ z % 2)

def okW (e p : Int) (f : Nat) : Bool := decide (4 * nB e p < f * nA e p || (4 * nB e p = f * nA e p && e = -11 && p = 0)) && decide (f * nA e p < 40 * nB e p) && decide (-307 ≤ p) && decide (p ≤ 324) && decide (5 ≤ -(e + l2 p + 3)) && decide (-(e + l2 p + 3) < 60)
def okWB (e : Int) : Bool := okW e (-l10 (e + 11)) 2048
def okWA (e : Int) : Bool := okW e (-skw (e + 11)) 1536
def okWC (e : Int) : Bool := okW e 324 (2 ^ (-1074 - e).toNat)
theorem wB_0 : (List.range 2057).all (fun i => okWB (((0 + i : Nat) : Int) - 1085)) = true := by decide +kernel
theorem wA_0 : (List.range 2056).all (fun i => okWA (((0 + i : Nat) : Int) - 1084)) = true := by decide +kernel
theorem wC_0 : (List.range 52).all (fun i => okWC (((0 + i : Nat) : Int) - 1137)) = true := by decide +kernel

theorem scale_eq (K : Nat) (z : Nat) (e q : Int) (hz : 2 ≤ z) (hq : q = e + z) (he : inr (e + 2)) : K * 2 ^ (z - 2) * pw (e + 2) 0 = K * pw q 0 := by
  have h := pw_two (P := 0) (z - 2) he (by unfold inr; omega)
  rw [show e + 2 + ((z - 2 : Nat) : Int) = q by omega] at h
  rw [h, Nat.mul_assoc]
theorem four_eq (D : Nat) (P : Int) (hP : inr P) : 4 * D * pw 0 P = D * pw 2 P := by
  have h := pw_two (a := 0) (P := P) 2 (by unfold inr; omega) hP
  rw [show (0 : Int) + ((2 : Nat) : Int) = 2 by omega] at h
  rw [h, show (2 : Nat) ^ 2 = 4 by decide]
  ac_rfl
theorem lo_scale {K D z : Nat} {e p q : Int} (hz : 2 ≤ z) (hq : q = e + z) (he : inr (e + 2)) (he' : inr e) (hp : inr p) (hp' : inr (-p)) : K * 2 ^ (z - 2) * nA e p ≤ 4 * D * nB e p ↔ K * pw q 0 ≤ D * pw 2 (-p) := by
  have h0 : inr 0 := by unfold inr; omega
  have h := pw_le (K := K * 2 ^ (z - 2)) (K' := 4 * D) (a := e + 2) (P := p) (a' := 0) (P' := 0) (-p) he hp h0 h0 (by rw [Int.add_right_neg]; exact h0) (by rw [Int.zero_add]; exact hp')
  rw [Int.add_right_neg, Int.zero_add, scale_eq K z e q hz hq he, four_eq D (-p) hp'] at h
  rw [nAB_le he' hp, ← h]
theorem hi_scale {K D z : Nat} {e p q : Int} (hz : 2 ≤ z) (hq : q = e + z) (he : inr (e + 2)) (he' : inr e) (hp : inr p) (hp' : inr (-p)) : 4 * D * nB e p ≤ K * 2 ^ (z - 2) * nA e p ↔ D * pw 2 (-p) ≤ K * pw q 0 := by
  have h0 : inr 0 := by unfold inr; omega
  have h := pw_le (K := 4 * D) (K' := K * 2 ^ (z - 2)) (a := 0) (P := 0) (a' := e + 2) (P' := p) (-p) h0 h0 he hp (by rw [Int.zero_add]; exact hp') (by rw [Int.add_right_neg]; exact h0)
  rw [Int.add_right_neg, Int.zero_add, scale_eq K z e q hz hq he, four_eq D (-p) hp'] at h
  rw [nAB_ge he' hp, ← h]

/-- The answer: digits, exponent. -/
def ans (r : Nat × Bool) (p : Int) : Nat × Int := if r.2 then (r.1, -p + 1) else (r.1, -p)
theorem ans_scale (r : Nat × Bool) (p : Int) (hp : inr (-p)) : (ans r p).1 * pw 2 (ans r p).2 = full r * pw 2 (-p) := by
  unfold ans full
  cases r.2
  · rfl
  · have h := pw_ten (a := 2) (P := -p) 1 (by unfold inr; omega) hp
    show r.1 * pw 2 (-p + 1) = 10 * r.1 * pw 2 (-p)
    rw [show (-p + 1 : Int) = -p + ((1 : Nat) : Int) by omega, h, Nat.pow_one]
    ac_rfl

/-- One pair of exponents, any number: c says how far below the interval begins. -/
theorem core (M : Nat) (q e p : Int) (z k N c : Nat) (hM : 0 < M) (hc1 : 1 ≤ c) (hc2 : c ≤ 2) (hodd : M % 2 = 1 → c = 2) (hz : 2 ≤ z) (hq : q = e + z) (he : -1200 ≤ e ∧ e ≤ 1200) (hp : -400 ≤ p ∧ p ≤ 400)
    (ht : okTab e p = true) (hn : okNear e p k N = true) (X1 X2 X3 : Nat) (h1 : (4 * M - c) * 2 ^ (z - 2) = X1 * k) (h2 : (4 * M + 2) * 2 ^ (z - 2) = X2 * k) (h3 : 4 * M * 2 ^ (z - 2) = X3 * k)
    (hX : 0 < X1) (hN : X2 ≤ N) (hW : (4 * M + 2) * 2 ^ (z - 2) < 18446744073709551616) (h2' : 2 ≤ (4 * M - c) * 2 ^ (z - 2))
    (hw : 4 * nB e p < (2 + c) * 2 ^ (z - 2) * nA e p ∨ (4 * nB e p = (2 + c) * 2 ^ (z - 2) * nA e p ∧ ∀ D, 4 * D * nB e p ≠ (4 * M - c) * 2 ^ (z - 2) * nA e p)) :
    let r := shortOf (usc (row10 p).1 (row10 p).2 (sh e p) ((4 * M - c) * 2 ^ (z - 2))) (usc (row10 p).1 (row10 p).2 (sh e p) ((4 * M + 2) * 2 ^ (z - 2))) (usc (row10 p).1 (row10 p).2 (sh e p) (4 * M * 2 ^ (z - 2))) (M % 2)
    (4 * M - c) * pw q 0 ≤ (ans r p).1 * pw 2 (ans r p).2 ∧ (ans r p).1 * pw 2 (ans r p).2 ≤ (4 * M + 2) * pw q 0 ∧
    (M % 2 = 1 → (4 * M - 2) * pw q 0 < (ans r p).1 * pw 2 (ans r p).2 ∧ (ans r p).1 * pw 2 (ans r p).2 < (4 * M + 2) * pw q 0) ∧
    4 * full r * nB e p ≤ (4 * M + 2) * 2 ^ (z - 2) * nA e p := by
  intro r
  have i1 : inr (e + 2) := by unfold inr; omega
  have i2 : inr e := by unfold inr; omega
  have i3 : inr p := by unfold inr; omega
  have i4 : inr (-p) := by unfold inr; omega
  have hB := nB_pos e p
  have hY : 0 < 2 ^ (z - 2) := Nat.pow_pos (by omega)
  have hk : 0 < k := by
    rcases Nat.eq_zero_or_pos k with h | h
    · subst h; omega
    · exact h
  have l13 : (4 * M - c) * 2 ^ (z - 2) ≤ 4 * M * 2 ^ (z - 2) := Nat.mul_le_mul_right _ (by omega)
  have l32 : 4 * M * 2 ^ (z - 2) ≤ (4 * M + 2) * 2 ^ (z - 2) := Nat.mul_le_mul_right _ (by omega)
  have x13 : X1 ≤ X3 := Nat.le_of_mul_le_mul_right (by omega) hk
  have x32 : X3 ≤ X2 := Nat.le_of_mul_le_mul_right (by omega) hk
  have s1 := scaled ht hn X1 hX (by omega) (by omega) (by omega)
  have s2 := scaled ht hn X2 (by omega) hN (by omega) (by omega)
  have s3 := scaled ht hn X3 (by omega) (by omega) (by omega) (by omega)
  rw [← h1] at s1
  rw [← h2] at s2
  rw [← h3] at s3
  rw [ans_scale r p i4]
  -- widths
  have f0 : nA e p * (2 ^ (z - 2)) = 2 ^ (z - 2) * nA e p := Nat.mul_comm _ _
  obtain ⟨U, hU⟩ : ∃ U, 2 ^ (z - 2) * nA e p = U := ⟨_, rfl⟩
  have hUp : 0 < U := by
    rw [← hU]
    exact Nat.mul_pos hY (Nat.mul_pos (Nat.pow_pos (by omega)) (Nat.pow_pos (by omega)))
  have eU : ∀ K : Nat, K * 2 ^ (z - 2) * nA e p = K * U := fun K => by rw [Nat.mul_assoc, hU]
  have hw' : (4 * M - c) * U + 4 * nB e p ≤ (4 * M + 2) * U ∧ ((4 * M - c) * U + 4 * nB e p < (4 * M + 2) * U ∨ ∀ D, 4 * D * nB e p ≠ (4 * M - c) * U) := by
    have e1 : (4 * M + 2) * U = (4 * M - c) * U + (2 + c) * U := by rw [← Nat.add_mul]; congr 1; omega
    rw [eU, eU] at hw
    rcases hw with hw | ⟨hw, hw2⟩
    · exact ⟨by omega, .inl (by omega)⟩
    · exact ⟨by omega, .inr hw2⟩
  have g1 : (4 * M - c) * U < 4 * M * U := Nat.mul_lt_mul_of_pos_right (by omega) hUp
  have main : (4 * M - c) * U ≤ 4 * full r * nB e p ∧ 4 * full r * nB e p ≤ (4 * M + 2) * U ∧ (M % 2 = 1 → (4 * M - c) * U < 4 * full r * nB e p ∧ 4 * full r * nB e p < (4 * M + 2) * U) := by
    have hr : r = shortOf (unr ((4 * M - c) * U) (nB e p)) (unr ((4 * M + 2) * U) (nB e p)) (unr (4 * M * U) (nB e p)) (M % 2) := by
      show shortOf _ _ _ _ = _
      rw [s1, s2, s3, eU, eU, eU]
    rw [hr]
    rcases Nat.mod_two_eq_zero_or_one M with h0 | h0
    · rw [h0]
      have := short_even (lo := (4 * M - c) * U) (mid := 4 * M * U) (hi := (4 * M + 2) * U) hB (by
        rw [show 2 * ((4 * M - c) * U) = (2 * (4 * M - c)) * U by ac_rfl, ← Nat.add_mul, show 3 * (4 * M * U) = (12 * M) * U by rw [← Nat.mul_assoc, ← Nat.mul_assoc]]
        exact Nat.mul_le_mul_right U (by omega)) (by
        rw [show 2 * (4 * M * U) = (8 * M) * U by rw [← Nat.mul_assoc, ← Nat.mul_assoc], ← Nat.add_mul]
        exact Nat.mul_le_mul_right U (by omega)) hw'.1
      exact ⟨this.1, this.2, fun h => absurd h (by omega)⟩
    · rw [h0]
      have hc := hodd h0
      have := short_odd (lo := (4 * M - c) * U) (mid := 4 * M * U) (hi := (4 * M + 2) * U) hB g1 (by
        rw [show 2 * (4 * M * U) = (8 * M) * U by rw [← Nat.mul_assoc, ← Nat.mul_assoc], ← Nat.add_mul]
        congr 1
        omega) hw'.1 hw'.2
      exact ⟨Nat.le_of_lt this.1, Nat.le_of_lt this.2, fun _ => this⟩
  obtain ⟨m1, m2, m3⟩ := main
  rw [← eU] at m1 m2
  have k1 := (lo_scale hz hq i1 i2 i3 i4).1 m1
  have k2 := (hi_scale hz hq i1 i2 i3 i4).1 m2
  refine ⟨k1, k2, fun h => ?_, m2⟩
  have hc := hodd h
  subst hc
  have m3 := m3 h
  rw [← eU, ← eU] at m3
  refine ⟨Nat.lt_of_not_le fun h' => ?_, Nat.lt_of_not_le fun h' => ?_⟩
  · have := (hi_scale hz hq i1 i2 i3 i4).2 h'
    omega
  · have := (lo_scale hz hq i1 i2 i3 i4).2 h'
    omega

theorem okW_spec {e p : Int} {f : Nat} (h : okW e p f = true) : (4 * nB e p < f * nA e p ∨ (4 * nB e p = f * nA e p ∧ e = -11 ∧ p = 0)) ∧ f * nA e p < 40 * nB e p ∧ -307 ≤ p ∧ p ≤ 324 ∧ 5 ≤ -(e + l2 p + 3) ∧ -(e + l2 p + 3) < 60 := by
  simp only [okW, Bool.and_eq_true, decide_eq_true_eq, Bool.or_eq_true] at h
  obtain ⟨⟨⟨⟨⟨h1, h2⟩, h3⟩, h4⟩, h5⟩, h6⟩ := h
  exact ⟨h1.imp id (fun h => ⟨h.1.1, h.1.2, h.2⟩), h2, h3, h4, h5, h6⟩
theorem wB (e : Int) (h1 : -1085 ≤ e) (h2 : e ≤ 960) : okWB e = true := by
  obtain ⟨i, rfl⟩ : ∃ i : Nat, e = (i : Int) - 1085 := ⟨(e + 1085).toNat, by omega⟩
  exact all_at (f := fun i => okWB ((i : Int) - 1085)) wB_0 i (by omega) (by omega)
theorem wA (e : Int) (h1 : -1084 ≤ e) (h2 : e ≤ 960) : okWA e = true := by
  obtain ⟨i, rfl⟩ : ∃ i : Nat, e = (i : Int) - 1084 := ⟨(e + 1084).toNat, by omega⟩
  exact all_at (f := fun i => okWA ((i : Int) - 1084)) wA_0 i (by omega) (by omega)
theorem wC (e : Int) (h1 : -1137 ≤ e) (h2 : e ≤ -1086) : okWC e = true := by
  obtain ⟨i, rfl⟩ : ∃ i : Nat, e = (i : Int) - 1137 := ⟨(e + 1137).toNat, by omega⟩
  exact all_at (f := fun i => okWC ((i : Int) - 1137)) wC_0 i (by omega) (by omega)

/-- The digits' bound. -/
theorem bound {D M B A Y g : Nat} (hB : 0 < B) (h1 : 4 * D * B ≤ (4 * M + 2) * Y * A) (h2 : g * Y * A < 40 * B) : g * D < (4 * M + 2) * 10 + 1 := by
  have m1 := Nat.mul_le_mul_left g h1
  have m2 := Nat.mul_le_mul_left (4 * M + 2) (Nat.le_of_lt h2)
  have e1 : g * (4 * D * B) = 4 * (g * D) * B := by ac_rfl
  have e2 : g * ((4 * M + 2) * Y * A) = (4 * M + 2) * (g * Y * A) := by ac_rfl
  have e3 : (4 * M + 2) * (40 * B) = 4 * ((4 * M + 2) * 10) * B := by
    rw [show (40 : Nat) = 4 * 10 by decide]
    ac_rfl
  rw [e1, e2] at m1
  rw [e3] at m2
  have := Nat.le_of_mul_le_mul_right (Nat.le_trans m1 m2) hB
  omega

theorem finish {M : Nat} {q p : Int} {r : Nat × Bool} {c : Nat} (hM : 0 < M) (hc2 : c ≤ 2) (hp1 : -307 ≤ p) (hp2 : p ≤ 324) (hf : full r < 100000000000000000) (hc : c = if M = 4503599627370496 ∧ -1074 < q then 1 else 2)
    (h1 : (4 * M - c) * pw q 0 ≤ (ans r p).1 * pw 2 (ans r p).2) (h2 : (ans r p).1 * pw 2 (ans r p).2 ≤ (4 * M + 2) * pw q 0)
    (h3 : M % 2 = 1 → (4 * M - 2) * pw q 0 < (ans r p).1 * pw 2 (ans r p).2 ∧ (ans r p).1 * pw 2 (ans r p).2 < (4 * M + 2) * pw q 0) :
    InX M q (ans r p).1 (ans r p).2 ∧ 0 < (ans r p).1 ∧ (ans r p).1 < 100000000000000000 ∧ -324 ≤ (ans r p).2 ∧ (ans r p).2 ≤ 308 := by
  refine ⟨⟨?_, h2, h3⟩, ?_, ?_, ?_, ?_⟩
  · rw [hc] at h1
    split at h1
    · rename_i h; rw [if_pos h]; exact h1
    · rename_i h; rw [if_neg h]; exact h1
  · rcases Nat.eq_zero_or_pos (ans r p).1 with h | h
    · rw [h, Nat.zero_mul] at h1
      have := Nat.mul_pos (show 0 < 4 * M - c by omega) (pw_pos q 0)
      omega
    · exact h
  · unfold ans full at *
    cases h : r.2 <;> rw [h] at hf <;> simp at hf ⊢ <;> omega
  · unfold ans
    split <;> simp only <;> omega
  · unfold ans
    split <;> simp only <;> omega

theorem short_in (M : Nat) (q : Int) (hM : 0 < M) (hM2 : M < 9007199254740992) (hq1 : -1074 ≤ q) (hq2 : q ≤ 971) (hn : 4503599627370496 ≤ M ∨ q = -1074) (z : Nat) (hz1 : 9223372036854775808 ≤ M * 2 ^ z) (hz2 : M * 2 ^ z < 18446744073709551616) :
    let r := sfr (M * 2 ^ z) (q - z) z; let p := sfp (M * 2 ^ z) (q - z) z
    InX M q (ans r p).1 (ans r p).2 ∧ 0 < (ans r p).1 ∧ (ans r p).1 < 100000000000000000 ∧ -324 ≤ (ans r p).2 ∧ (ans r p).2 ≤ 308 := by
  intro r p
  have hz11 : 11 ≤ z := by
    rcases Nat.lt_or_ge z 11 with h | h
    · exfalso
      have h1 : 2 ^ z ≤ 2 ^ 10 := Nat.pow_le_pow_right (by omega) (by omega)
      have h2 := Nat.mul_le_mul_left M h1
      omega
    · exact h
  have hz63 : z ≤ 63 := by
    rcases Nat.lt_or_ge 63 z with h | h
    · exfalso
      have h1 : 2 ^ 64 ≤ 2 ^ z := Nat.pow_le_pow_right (by omega) (by omega)
      have h2 : 1 * 2 ^ 64 ≤ M * 2 ^ z := Nat.mul_le_mul hM h1
      omega
    · exact h
  have e4 : 2 ^ z = 4 * 2 ^ (z - 2) := by
    rw [show z = 2 + (z - 2) by omega, Nat.pow_add, show 2 + (z - 2) - 2 = z - 2 by omega]
  have e2 : 2 ^ (z - 1) = 2 * 2 ^ (z - 2) := by
    rw [show z - 1 = 1 + (z - 2) by omega, Nat.pow_add, Nat.pow_one]
  have emx : M * 2 ^ z + 2 ^ (z - 1) = (4 * M + 2) * 2 ^ (z - 2) := by rw [e4, e2, Nat.add_mul]; congr 1; ac_rfl
  have em : M * 2 ^ z = 4 * M * 2 ^ (z - 2) := by rw [e4]; ac_rfl
  have eo : M * 2 ^ z / 2 ^ z % 2 = M % 2 := by rw [Nat.mul_div_cancel _ (Nat.pow_pos (by omega))]
  have hWx : (4 * M + 2) * 2 ^ (z - 2) < 18446744073709551616 := by
    rw [← emx]
    have hd : 2 ^ z * (2 ^ (64 - z)) = 18446744073709551616 := by rw [← Nat.pow_add, show z + (64 - z) = 64 by omega]
    have h1 : M < 2 ^ (64 - z) := by
      rw [← hd, Nat.mul_comm] at hz2
      exact Nat.lt_of_mul_lt_mul_left hz2
    have h2 : (M + 1) * 2 ^ z ≤ 18446744073709551616 := by
      rw [← hd, Nat.mul_comm]
      exact Nat.mul_le_mul_left _ h1
    have hY : 0 < 2 ^ (z - 2) := Nat.pow_pos (by omega)
    rw [Nat.add_mul, Nat.one_mul] at h2
    omega
  by_cases hA : M = 4503599627370496 ∧ -1074 < q
  · -- a power of two
    obtain ⟨hM0, hq0⟩ := hA
    have hz : z = 11 := by
      rcases Nat.lt_or_ge 11 z with h | h
      · exfalso
        have h1 : 2 ^ 12 ≤ 2 ^ z := Nat.pow_le_pow_right (by omega) h
        have h2 := Nat.mul_le_mul_left M h1
        omega
      · omega
    have hmz : M * 2 ^ z = 9223372036854775808 := by rw [hM0, hz]
    have hcnd : M * 2 ^ z = 9223372036854775808 ∧ -1085 < q - (z : Int) := ⟨hmz, by omega⟩
    have hpe : p = -skw (q - z + z) := if_pos hcnd
    have hme : sfm (M * 2 ^ z) (q - z) z = (4 * M - 1) * 2 ^ (z - 2) := by
      unfold sfm
      rw [if_pos hcnd, em, Nat.sub_mul, Nat.one_mul]
    have hw := okW_spec (show okW (q - z) p 1536 = true by
      have := wA (q - z) (by omega) (by omega)
      unfold okWA at this
      rw [hpe]
      rwa [show q - (z : Int) + 11 = q - z + z by omega] at this)
    have ok : okTab (q - z) p = true ∧ okNear (q - z) p 512 36028797018963968 = true := by
      have := fmtA_all (q - z) (by omega) (by omega)
      unfold okA at this
      rw [show q - (z : Int) + 11 = q - z + z by omega, ← hpe, Bool.and_eq_true] at this
      exact this
    have c := core M q (q - z) p z 512 36028797018963968 1 hM (by omega) (by omega) (by omega) (by omega) (by omega) (by omega) (by omega) ok.1 ok.2 (4 * M - 1) (4 * M + 2) (4 * M)
      (by rw [hz]) (by rw [hz]) (by rw [hz]) (by omega) (by omega) hWx (by rw [hz]; omega) (by
        rw [hz]
        show 4 * nB _ p < 1536 * nA _ p ∨ _
        rw [hz] at hw
        rcases hw.1 with h | ⟨h1, h2, h3⟩
        · exact .inl h
        · right
          have hq : q = 0 := by omega
          refine ⟨h1, fun D => ?_⟩
          rw [h3, hq, hM0]
          show 4 * D * 512 ≠ _
          have : nA (0 - ((11 : Nat) : Int)) 0 = 1 := by decide
          rw [this]
          omega)
    have hr : r = shortOf (usc (row10 p).1 (row10 p).2 (sh (q - z) p) ((4 * M - 1) * 2 ^ (z - 2))) (usc (row10 p).1 (row10 p).2 (sh (q - z) p) ((4 * M + 2) * 2 ^ (z - 2))) (usc (row10 p).1 (row10 p).2 (sh (q - z) p) (4 * M * 2 ^ (z - 2))) (M % 2) := by
      show sfr _ _ _ = _
      unfold sfr
      rw [hme, emx, eo, ← em]
    simp only [← hr] at c
    have hb := bound (g := 3) (nB_pos _ _) c.2.2.2 (by
      rw [hz]
      rw [hz] at hw
      exact hw.2.1)
    exact finish hM (by omega) hw.2.2.1 hw.2.2.2.1 (by omega) (if_pos ⟨hM0, hq0⟩).symm c.1 c.2.1 c.2.2.1
  · have hcc : (2 : Nat) = if M = 4503599627370496 ∧ -1074 < q then 1 else 2 := (if_neg hA).symm
    by_cases hM52 : 4503599627370496 ≤ M
    · have hz : z = 11 := by
        rcases Nat.lt_or_ge 11 z with h | h
        · exfalso
          have h1 : 2 ^ 12 ≤ 2 ^ z := Nat.pow_le_pow_right (by omega) h
          have h2 := Nat.mul_le_mul_left M h1
          omega
        · omega
      have hcnd : ¬ (M * 2 ^ z = 9223372036854775808 ∧ -1085 < q - (z : Int)) := fun h => hA ⟨by rw [hz] at h; omega, by omega⟩
      have hpe : p = -l10 (q - z + z) := if_neg hcnd
      have hme : sfm (M * 2 ^ z) (q - z) z = (4 * M - 2) * 2 ^ (z - 2) := by
        unfold sfm
        rw [if_neg hcnd, em, e2, Nat.sub_mul]
      have hw := okW_spec (show okW (q - z) p 2048 = true by
        have := wB (q - z) (by omega) (by omega)
        unfold okWB at this
        rw [hpe]
        rwa [show q - (z : Int) + 11 = q - z + z by omega] at this)
      have ok : okTab (q - z) p = true ∧ okNear (q - z) p 512 36028797018963968 = true := by
        have := fmtB_all (q - z) (by omega) (by omega)
        unfold okB at this
        rw [show q - (z : Int) + 11 = q - z + z by omega, ← hpe, Bool.and_eq_true] at this
        exact this
      have c := core M q (q - z) p z 512 36028797018963968 2 hM (by omega) (by omega) (by omega) (by omega) (by omega) (by omega) (by omega) ok.1 ok.2 (4 * M - 2) (4 * M + 2) (4 * M)
        (by rw [hz]) (by rw [hz]) (by rw [hz]) (by omega) (by omega) hWx (by rw [hz]; omega) (by
          rw [hz]
          show 4 * nB _ p < 2048 * nA _ p ∨ _
          rw [hz] at hw
          rcases hw.1 with h | ⟨h1, h2, h3⟩
          · exact .inl h
          · right
            have hq : q = 0 := by omega
            refine ⟨h1, fun D => ?_⟩
            rw [h3, hq]
            show 4 * D * 512 ≠ _
            have : nA (0 - ((11 : Nat) : Int)) 0 = 1 := by decide
            rw [this]
            omega)
      have hr : r = shortOf (usc (row10 p).1 (row10 p).2 (sh (q - z) p) ((4 * M - 2) * 2 ^ (z - 2))) (usc (row10 p).1 (row10 p).2 (sh (q - z) p) ((4 * M + 2) * 2 ^ (z - 2))) (usc (row10 p).1 (row10 p).2 (sh (q - z) p) (4 * M * 2 ^ (z - 2))) (M % 2) := by
        show sfr _ _ _ = _
        unfold sfr
        rw [hme, emx, eo, ← em]
      simp only [← hr] at c
      have hb := bound (g := 4) (nB_pos _ _) c.2.2.2 (by
        rw [hz]
        rw [hz] at hw
        exact hw.2.1)
      exact finish hM (by omega) hw.2.2.1 hw.2.2.2.1 (by omega) hcc c.1 c.2.1 c.2.2.1
    · have hq : q = -1074 := by omega
      have hz12 : 12 ≤ z := by
        rcases Nat.lt_or_ge z 12 with h | h
        · exfalso
          have h1 : 2 ^ z ≤ 2 ^ 11 := Nat.pow_le_pow_right (by omega) (by omega)
          have h2 := Nat.mul_le_mul_left M h1
          omega
        · exact h
      have hcnd : ¬ (M * 2 ^ z = 9223372036854775808 ∧ -1085 < q - (z : Int)) := fun h => by omega
      have hpe : p = 324 := by
        show sfp _ _ _ = _
        unfold sfp
        rw [if_neg hcnd, hq, show (-1074 : Int) - z + z = -1074 by omega]
        decide
      have hme : sfm (M * 2 ^ z) (q - z) z = (4 * M - 2) * 2 ^ (z - 2) := by
        unfold sfm
        rw [if_neg hcnd, em, e2, Nat.sub_mul]
      have hw := okW_spec (show okW (q - z) p (2 ^ z) = true by
        have := wC (q - z) (by omega) (by omega)
        unfold okWC at this
        rw [hpe]
        rwa [show (-1074 - (q - (z : Int))).toNat = z by omega] at this)
      have ok : okTab (q - z) p = true ∧ okNear (q - z) p (2 ^ (z - 1)) (2 ^ (65 - z)) = true := by
        have := fmtC_all (q - z) (by omega) (by omega)
        unfold okC at this
        rw [show (-1074 - (q - (z : Int)) - 1).toNat = z - 1 by omega, show (65 - (-1074 - (q - (z : Int)))).toNat = 65 - z by omega, ← hpe, Bool.and_eq_true] at this
        exact this
      have hd : 2 ^ z * (2 ^ (64 - z)) = 18446744073709551616 := by rw [← Nat.pow_add, show z + (64 - z) = 64 by omega]
      have hM64 : M < 2 ^ (64 - z) := by
        rw [← hd, Nat.mul_comm] at hz2
        exact Nat.lt_of_mul_lt_mul_left hz2
      have h65 : 2 ^ (65 - z) = 2 * 2 ^ (64 - z) := by rw [show 65 - z = 1 + (64 - z) by omega, Nat.pow_add, Nat.pow_one]
      have hY : 4 * M - 2 ≤ (4 * M - 2) * 2 ^ (z - 2) := Nat.le_mul_of_pos_right _ (Nat.pow_pos (by omega))
      have c := core M q (q - z) p z (2 ^ (z - 1)) (2 ^ (65 - z)) 2 hM (by omega) (by omega) (by omega) (by omega) (by omega) (by omega) (by omega) ok.1 ok.2 (2 * M - 1) (2 * M + 1) (2 * M)
        (by rw [e2, show 4 * M - 2 = (2 * M - 1) * 2 by omega]; ac_rfl) (by rw [e2, show 4 * M + 2 = (2 * M + 1) * 2 by omega]; ac_rfl) (by rw [e2, show 4 * M = 2 * M * 2 by omega]; ac_rfl) (by omega) (by omega) hWx (by omega) (by
          left
          rw [← e4]
          rcases hw.1 with h | ⟨_, h, _⟩
          · exact h
          · omega)
      have hr : r = shortOf (usc (row10 p).1 (row10 p).2 (sh (q - z) p) ((4 * M - 2) * 2 ^ (z - 2))) (usc (row10 p).1 (row10 p).2 (sh (q - z) p) ((4 * M + 2) * 2 ^ (z - 2))) (usc (row10 p).1 (row10 p).2 (sh (q - z) p) (4 * M * 2 ^ (z - 2))) (M % 2) := by
        show sfr _ _ _ = _
        unfold sfr
        rw [hme, emx, eo, ← em]
      simp only [← hr] at c
      have hb := bound (g := 4) (nB_pos _ _) c.2.2.2 (by
        rw [← e4]
        exact hw.2.1)
      exact finish hM (by omega) hw.2.2.1 hw.2.2.2.1 (by omega) hcc c.1 c.2.1 c.2.2.1
end Go.Proofs.YtjniglmijikojaaGreatDoor.Own
namespace Go.Proofs.YtjniglmijikojaaGreatDoor.Text
open Go.Proofs.YtjniglmijikojaaGreatDoor.Own

def lw (c : Int) : Int := Go.bits .or .u8 c 32

/-- What is read so far: the digits' number, how many digits, how many of them are in the number, the point; underscores, a point, a digit, digits left out. -/
structure RS where
  m : Nat
  nd : Nat
  nm : Nat
  dp : Int
  us : Bool
  dot : Bool
  dig : Bool
  tr : Bool

def rs0 : RS := ⟨0, 0, 0, 0, false, false, false, false⟩
def base (hex : Bool) : Nat := if hex then 16 else 10
def most (hex : Bool) : Nat := if hex then 16 else 19
def xch (hex : Bool) : Int := if hex then 112 else 101

def step (hex : Bool) (c : Int) (x : RS) : Option RS :=
  if c = 95 then some { x with us := true }
  else if c = 46 then (if x.dot then none else some { x with dot := true, dp := x.nd })
  else if 48 ≤ c ∧ c ≤ 57 then
    if c = 48 ∧ x.nd = 0 then some { x with dig := true, dp := x.dp - 1 }
    else if x.nm < most hex then some { x with dig := true, nd := x.nd + 1, m := x.m * base hex + (c - 48).toNat, nm := x.nm + 1 }
    else some { x with dig := true, nd := x.nd + 1, tr := if c = 48 then x.tr else true }
  else if hex = true ∧ 97 ≤ lw c ∧ lw c ≤ 102 then
    if x.nm < most hex then some { x with dig := true, nd := x.nd + 1, m := x.m * 16 + (lw c - 97 + 10).toNat, nm := x.nm + 1 }
    else some { x with dig := true, nd := x.nd + 1, tr := true }
  else none

def scan (hex : Bool) : List Int → RS → RS × List Int
  | [], x => (x, [])
  | c :: l, x => match step hex c x with
    | none => (x, c :: l)
    | some y => scan hex l y

def scanE : List Int → Int → Bool → Int × Bool × List Int
  | [], e, u => (e, u, [])
  | c :: l, e, u =>
    if c = 95 then scanE l e true
    else if 48 ≤ c ∧ c ≤ 57 then scanE l (if e < 10000 then e * 10 + c - 48 else e) u
    else (e, u, c :: l)

/-- The exponent's sign. -/
def esign : List Int → Int × List Int
  | [] => (1, [])
  | c :: l => if c = 43 then (1, l) else if c = 45 then (-1, l) else (1, c :: l)
/-- The exponent's digits. -/
def edig (dp : Int) (us : Bool) (p : Int × List Int) : Option (Int × Bool × List Int) := match p.2 with
  | [] => none
  | d :: _ => if 48 ≤ d ∧ d ≤ 57 then some (dp + (scanE p.2 0 us).1 * p.1, (scanE p.2 0 us).2.1, (scanE p.2 0 us).2.2) else none
/-- The exponent: the point, underscores, what is left. -/
def expo (hex : Bool) (dp : Int) (us : Bool) : List Int → Option (Int × Bool × List Int)
  | [] => if hex then none else some (dp, us, [])
  | c :: l => if lw c = xch hex then edig dp us (esign l) else if hex then none else some (dp, us, c :: l)

def dpx (hx : Bool) (x : RS) : Int := if hx then (if x.dot then x.dp else (x.nd : Int)) * 4 else (if x.dot then x.dp else (x.nd : Int))
def nmx (hx : Bool) (x : RS) : Int := if hx then (x.nm : Int) * 4 else (x.nm : Int)
/-- Behind the digits. -/
def behind (hex : Bool) (p : RS × List Int) : Option (Nat × Int × Bool × Bool × List Int) :=
  if p.1.dig then (expo hex (dpx hex p.1) p.1.us p.2).map fun q => (p.1.m, if p.1.m = 0 then 0 else q.1 - nmx hex p.1, p.1.tr, q.2.1, q.2.2)
  else none

def signed : List Int → Bool × List Int
  | 43 :: l => (false, l)
  | 45 :: l => (true, l)
  | l => (false, l)

def isHex : List Int → Bool
  | a :: b :: _ :: _ => a == 48 && lw b == 120
  | _ => false
def unhex (l : List Int) : List Int := if isHex l then l.drop 2 else l

def bytes (s : ByteArray) : List Int := s.data.toList.map fun b => (b.toNat : Int)
theorem bytes_len (s : ByteArray) : (bytes s).length = s.size := by simp [bytes]
theorem bytes_at (s : ByteArray) (i : Nat) (h : i < s.size) : (bytes s).drop i = (s[i].toNat : Int) :: (bytes s).drop (i + 1) := by
  have h' : i < (bytes s).length := by rw [bytes_len]; exact h
  rw [List.drop_eq_getElem_cons h']
  congr 1
  simp [bytes]
  rfl

/-- The state is within bounds. -/
structure RsOk (hex : Bool) (k : Nat) (x : RS) : Prop where
  nm : x.nm ≤ most hex
  nd : x.nd ≤ k
  lo : -(k : Int) ≤ x.dp
  hi : x.dp ≤ k
  m : x.m < base hex ^ x.nm
  le : x.nm ≤ x.nd

theorem rsok0 (hex : Bool) : RsOk hex 0 rs0 := by
  refine ⟨?_, ?_, ?_, ?_, ?_, ?_⟩ <;> simp [rs0]
theorem lw_hex (c : Int) (h1 : 97 ≤ lw c) (h2 : lw c ≤ 102) : (lw c - 97 + 10).toNat < 16 := by omega
theorem rsok_step {hex : Bool} {k : Nat} {x y : RS} {c : Int} (h : RsOk hex k x) (hs : step hex c x = some y) : RsOk hex (k + 1) y := by
  obtain ⟨h1, h2, h3, h4, h5, h6⟩ := h
  have hp : base hex ^ (x.nm + 1) = base hex ^ x.nm * base hex := Nat.pow_succ _ _
  have hb : base hex = 10 ∨ base hex = 16 := by unfold base; cases hex <;> simp
  have hbh : hex = true → base hex = 16 := fun e => by rw [e]; rfl
  unfold step at hs
  split at hs
  · cases hs; exact ⟨h1, by show x.nd ≤ _; omega, by show _ ≤ x.dp; omega, by show x.dp ≤ _; omega, h5, h6⟩
  · split at hs
    · split at hs
      · cases hs
      · cases hs; exact ⟨h1, by show x.nd ≤ _; omega, by show _ ≤ (x.nd : Int); omega, by show (x.nd : Int) ≤ _; omega, h5, h6⟩
    · split at hs
      · rename_i hd
        split at hs
        · cases hs; exact ⟨h1, by show x.nd ≤ _; omega, by show _ ≤ x.dp - 1; omega, by show x.dp - 1 ≤ _; omega, h5, h6⟩
        · split at hs
          · cases hs
            refine ⟨by show x.nm + 1 ≤ _; omega, by show x.nd + 1 ≤ _; omega, by show _ ≤ x.dp; omega, by show x.dp ≤ _; omega, ?_, by show x.nm + 1 ≤ x.nd + 1; omega⟩
            show x.m * base hex + (c - 48).toNat < base hex ^ (x.nm + 1)
            rw [hp]
            have : (c - 48).toNat < base hex := by omega
            have h7 : (x.m + 1) * base hex ≤ base hex ^ x.nm * base hex := Nat.mul_le_mul_right _ h5
            rw [Nat.add_mul] at h7
            omega
          · cases hs; exact ⟨h1, by show x.nd + 1 ≤ _; omega, by show _ ≤ x.dp; omega, by show x.dp ≤ _; omega, h5, by show x.nm ≤ x.nd + 1; omega⟩
      · split at hs
        · rename_i hx
          split at hs
          · cases hs
            refine ⟨by show x.nm + 1 ≤ _; omega, by show x.nd + 1 ≤ _; omega, by show _ ≤ x.dp; omega, by show x.dp ≤ _; omega, ?_, by show x.nm + 1 ≤ x.nd + 1; omega⟩
            show x.m * 16 + (lw c - 97 + 10).toNat < base hex ^ (x.nm + 1)
            have e := hbh hx.1
            rw [hp, e]
            rw [e] at h5
            have := lw_hex c hx.2.1 hx.2.2
            omega
          · cases hs; exact ⟨h1, by show x.nd + 1 ≤ _; omega, by show _ ≤ x.dp; omega, by show x.dp ≤ _; omega, h5, by show x.nm ≤ x.nd + 1; omega⟩
        · cases hs

theorem top_m {hex : Bool} {k : Nat} {x : RS} (h : RsOk hex k x) (hn : x.nm < most hex) (d : Nat) (hd : d < base hex) : x.m * base hex + d < 18446744073709551616 := by
  have h5 := h.m
  have h7 : (x.m + 1) * base hex ≤ base hex ^ x.nm * base hex := Nat.mul_le_mul_right _ h5
  rw [Nat.add_mul] at h7
  have h8 : base hex ^ x.nm * base hex ≤ base hex ^ (most hex) := by
    rw [← Nat.pow_succ]
    exact Nat.pow_le_pow_right (by unfold base; cases hex <;> simp) hn
  have h9 : base hex ^ most hex ≤ 18446744073709551616 := by cases hex <;> simp [base, most]
  omega
theorem top_all {hex : Bool} {k : Nat} {x : RS} (h : RsOk hex k x) : x.m < 18446744073709551616 := by
  have h5 := h.m
  have h8 : base hex ^ x.nm ≤ base hex ^ (most hex) := Nat.pow_le_pow_right (by unfold base; cases hex <;> simp) h.nm
  have h9 : base hex ^ most hex ≤ 18446744073709551616 := by cases hex <;> simp [base, most]
  omega
end Go.Proofs.YtjniglmijikojaaGreatDoor.Text
namespace Go.Proofs.YtjniglmijikojaaGreatDoor.Text
open Go.Proofs.YtjniglmijikojaaGreatDoor.Own

def sgl (neg : Bool) : List Int := if neg then [45] else []
/-- The exponent's digits, two or three. -/
def exps (e : Int) : List Int := if e < 10 then [48, e + 48] else if e < 100 then [e / 10 + 48, e % 10 + 48] else [e / 100 + 48, e / 10 % 10 + 48, e % 10 + 48]
def zeros (n : Nat) : List Int := List.replicate n 48
/-- Digits c, ds with an exponent. -/
def txE (neg : Bool) (c : Int) (ds : List Int) (dp : Int) : List Int :=
  sgl neg ++ [c] ++ (if ds = [] then [] else 46 :: ds) ++ [101] ++ (if dp - 1 < 0 then 45 :: exps (-(dp - 1)) else 43 :: exps (dp - 1))
/-- Digits with a point. -/
def txF (neg : Bool) (ds : List Int) (dp : Int) : List Int :=
  sgl neg ++ (if 0 < dp then ds.take dp.toNat ++ zeros (dp - ds.length).toNat else [48]) ++
    (if dp < ds.length then 46 :: (zeros (-dp).toNat ++ ds.drop dp.toNat) else [])
def tx (neg : Bool) (ds : List Int) (dp : Int) : List Int :=
  match ds with
  | [] => sgl neg ++ [48]
  | c :: r => if dp - 1 < -4 ∨ 6 ≤ dp - 1 then txE neg c r dp else txF neg (c :: r) dp
end Go.Proofs.YtjniglmijikojaaGreatDoor.Text
