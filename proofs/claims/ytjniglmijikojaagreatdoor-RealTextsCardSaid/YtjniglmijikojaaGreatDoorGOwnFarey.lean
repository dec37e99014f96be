/- Fractions between two neighbours; products that are near a whole number and are not one. No conditions. The library's scaled product, as naturals: it is exact where no product lies near a whole number. No conditions. What is left of a quotient, rounded down, up, to the nearest; the shortest number between two. No conditions. -/
import Derived.WalkKit
namespace Go.Proofs.YtjniglmijikojaaGreatDoor.Own

/-- Between two neighbours no fraction has a lesser denominator than their sum. -/
theorem between {a b c d x n : Nat} (h : c * b = a * d + 1) (hx : x < b + d) : n * b ≤ a * x ∨ c * x ≤ n * d := by
  rcases Nat.lt_or_ge (a * x) (n * b) with h1 | h1
  · rcases Nat.lt_or_ge (n * d) (c * x) with h2 | h2
    · exfalso
      have e1 : a * x + 1 ≤ n * b := h1
      have e2 : n * d + 1 ≤ c * x := h2
      have m1 : d * (a * x + 1) ≤ d * (n * b) := Nat.mul_le_mul_left d e1
      have m2 : b * (n * d + 1) ≤ b * (c * x) := Nat.mul_le_mul_left b e2
      have k1 : b * (c * x) = x * (c * b) := by ac_rfl
      have k2 : d * (a * x) = x * (a * d) := by ac_rfl
      have k3 : b * (n * d) = d * (n * b) := by ac_rfl
      rw [Nat.mul_add, Nat.mul_one, k2] at m1
      rw [Nat.mul_add, Nat.mul_one, k1, h, Nat.mul_add, Nat.mul_one, k3] at m2
      omega
    · exact .inr h2
  · exact .inl h1

/-- What is asked of two neighbours of A / B. -/
def chk (A B N Δ a b c d : Nat) : Bool :=
  c * b == a * d + 1 && decide (N < b + d) && decide (0 < b) && decide (0 < d) && decide (a * B ≤ A * b) && decide (A * d ≤ c * B) &&
  (A * b == a * B || decide (a * B + Δ ≤ A * b)) && (A * d == c * B || decide (A * d + Δ ≤ c * B)) && decide (Δ * b ≤ B) && decide (Δ * d ≤ B)

theorem chk_spec {A B N Δ a b c d : Nat} (h : chk A B N Δ a b c d = true) (x n : Nat) (hx : 0 < x) (hN : x ≤ N) (h1 : x * A < n * B + Δ) (h2 : n * B < x * A + Δ) : x * A = n * B := by
  simp only [chk, Bool.and_eq_true, Bool.or_eq_true, beq_iff_eq, decide_eq_true_eq] at h
  obtain ⟨⟨⟨⟨⟨⟨⟨⟨⟨e, hn⟩, hb⟩, hd⟩, hl⟩, hu⟩, hL⟩, hU⟩, hDb⟩, hDd⟩ := h
  rcases between (n := n) e (Nat.lt_of_le_of_lt hN hn) with h3 | h3
  · -- n / x at or below a / b
    have k : b * (x * A) = x * (A * b) := by ac_rfl
    have k' : b * (n * B) = B * (n * b) := by ac_rfl
    have k'' : x * (a * B) = B * (a * x) := by ac_rfl
    rcases Nat.eq_or_lt_of_le h3 with h4 | h4
    · -- n * b = a * x
      rcases hL with hL | hL
      · apply Nat.eq_of_mul_eq_mul_left hb
        rw [k, hL, k'', k', h4]
      · exfalso
        have m := Nat.mul_le_mul_left x hL
        rw [Nat.mul_add, k'', ← k, ← h4, ← k'] at m
        have m2 := Nat.mul_lt_mul_of_pos_left h1 hb
        rw [Nat.mul_add] at m2
        -- b divides x
        have hbx : b ∣ x := by
          have g : Nat.Coprime b a := by
            rw [Nat.coprime_iff_gcd_eq_one]
            have g1 := Nat.gcd_dvd_left b a
            have g2 := Nat.gcd_dvd_right b a
            have g3 : Nat.gcd b a ∣ c * b := Nat.dvd_trans g1 (Nat.dvd_mul_left b c)
            have g4 : Nat.gcd b a ∣ a * d := Nat.dvd_trans g2 (Nat.dvd_mul_right a d)
            rw [e] at g3
            exact Nat.dvd_one.1 ((Nat.dvd_add_right g4).1 g3)
          exact g.dvd_of_dvd_mul_left ⟨n, by rw [← h4, Nat.mul_comm]⟩
        have hxb := Nat.le_of_dvd hx hbx
        have m3 : b * Δ ≤ x * Δ := Nat.mul_le_mul_right Δ hxb
        omega
    · exfalso
      have h5 : n * b + 1 ≤ a * x := h4
      have m := Nat.mul_le_mul_left B h5
      rw [Nat.mul_add, Nat.mul_one, ← k', ← k''] at m
      have m1 := Nat.mul_le_mul_left x hl
      rw [← k] at m1
      have m2 := Nat.mul_lt_mul_of_pos_left h1 hb
      rw [Nat.mul_add, Nat.mul_comm b Δ] at m2
      omega
  · have k : d * (x * A) = x * (A * d) := by ac_rfl
    have k' : d * (n * B) = B * (n * d) := by ac_rfl
    have k'' : x * (c * B) = B * (c * x) := by ac_rfl
    rcases Nat.eq_or_lt_of_le h3 with h4 | h4
    · rcases hU with hU | hU
      · apply Nat.eq_of_mul_eq_mul_left hd
        rw [k, hU, k'', k', h4]
      · exfalso
        have m := Nat.mul_le_mul_left x hU
        rw [Nat.mul_add, k'', ← k, h4, ← k'] at m
        have m2 := Nat.mul_lt_mul_of_pos_left h2 hd
        rw [Nat.mul_add] at m2
        have hdx : d ∣ x := by
          have g : Nat.Coprime d c := by
            rw [Nat.coprime_iff_gcd_eq_one]
            have g1 := Nat.gcd_dvd_left d c
            have g2 := Nat.gcd_dvd_right d c
            have g3 : Nat.gcd d c ∣ c * b := Nat.dvd_trans g2 (Nat.dvd_mul_right c b)
            have g4 : Nat.gcd d c ∣ a * d := Nat.dvd_trans g1 (Nat.dvd_mul_left d a)
            rw [e] at g3
            exact Nat.dvd_one.1 ((Nat.dvd_add_right g4).1 g3)
          exact g.dvd_of_dvd_mul_left ⟨n, by rw [h4, Nat.mul_comm]⟩
        have hxd := Nat.le_of_dvd hx hdx
        have m3 : d * Δ ≤ x * Δ := Nat.mul_le_mul_right Δ hxd
        omega
    · exfalso
      have h5 : c * x + 1 ≤ n * d := h4
      have m := Nat.mul_le_mul_left B h5
      rw [Nat.mul_add, Nat.mul_one, ← k', ← k''] at m
      have m1 := Nat.mul_le_mul_left x hu
      rw [← k] at m1
      have m2 := Nat.mul_lt_mul_of_pos_left h2 hd
      rw [Nat.mul_add, Nat.mul_comm d Δ] at m2
      omega

/-- Neighbours of A / B, by the elder way: go towards it till the sum of the denominators is above N. -/
def nbr (A B N : Nat) : Nat → Nat → Nat → Nat → Nat → Nat × Nat × Nat × Nat
  | 0, a, b, c, d => (a, b, c, d)
  | f + 1, a, b, c, d =>
    if N < b + d then (a, b, c, d)
    else
      -- how often c / d may be added to a / b: (a + k c) / (b + k d) ≤ A / B
      let k := (A * b - a * B) / (c * B - A * d)
      let j := (N - b) / d
      if c * B - A * d = 0 then (a + j * c, b + j * d, c, d)
      else
      let k := min k j
      if k = 0 then
        let k' := (c * B - A * d) / (A * b - a * B)
        let j' := (N - d) / b
        if A * b - a * B = 0 then (a, b, c + j' * a, d + j' * b)
        else
        let k' := min k' j'
        if k' = 0 then
          -- the mediant is on one side: one step
          if (a + c) * B ≤ A * (b + d) then nbr A B N f (a + c) (b + d) c d else nbr A B N f a b (a + c) (b + d)
        else nbr A B N f a b (c + k' * a) (d + k' * b)
      else nbr A B N f (a + k * c) (b + k * d) c d
def chkAt (A B N Δ : Nat) : Bool :=
  let r := nbr A B N 400 (A / B) 1 (A / B + 1) 1
  chk A B N Δ r.1 r.2.1 r.2.2.1 r.2.2.2
theorem chkAt_spec {A B N Δ : Nat} (h : chkAt A B N Δ = true) (x n : Nat) (hx : 0 < x) (hN : x ≤ N) (h1 : x * A < n * B + Δ) (h2 : n * B < x * A + Δ) : x * A = n * B := chk_spec h x n hx hN h1 h2
end Go.Proofs.YtjniglmijikojaaGreatDoor.Own
namespace Go.Proofs.YtjniglmijikojaaGreatDoor.Own


/-- uscale, in naturals. -/
def usc (hi lo s x : Nat) : Nat :=
  if (x * hi / 18446744073709551616) % 2 ^ s ≠ 0 then (x * hi / 18446744073709551616 / 2 ^ s) ||| 1
  else ((if x * hi % 18446744073709551616 < x * lo / 18446744073709551616 then x * hi / 18446744073709551616 - 1 else x * hi / 18446744073709551616) / 2 ^ s) ||| (if (x * hi % 18446744073709551616 + 18446744073709551616 - x * lo / 18446744073709551616) % 18446744073709551616 > 1 then 1 else 0)

/-- T / B, with a bit for what is left over. -/
def unr (T B : Nat) : Nat := (T / B) ||| (if T % B = 0 then 0 else 1)

theorem unr_in {T B q : Nat} (h1 : q * B < T) (h2 : T < (q + 1) * B) : unr T B = q ||| 1 := by
  have hB : 0 < B := by
    rcases Nat.eq_zero_or_pos B with h | h
    · subst h
      rw [Nat.mul_zero] at h1 h2
      omega
    · exact h
  have e : T / B = q := by
    apply Nat.div_eq_of_lt_le
    · omega
    · exact h2
  unfold unr
  rw [e, if_neg]
  intro hz
  have := Nat.div_add_mod T B
  rw [e, hz, Nat.add_zero, Nat.mul_comm] at this
  omega
theorem unr_at {T B q : Nat} (hB : 0 < B) (h : T = q * B) : unr T B = q := by
  subst h
  unfold unr
  rw [Nat.mul_div_cancel _ hB, Nat.mul_mod_left, if_pos rfl, Nat.or_zero]

theorem near1 (T Q B Y : Nat) (hB : 0 < B) (h : T * (18446744073709551616 * 18446744073709551616 * Y) ≤ Q * (18446744073709551616 * 18446744073709551616 * Y) + 18446744073709551616 * B) : T * (Y * 9223372036854775808) < Q * (Y * 9223372036854775808) + B := by
  have e : ∀ c : Nat, c * (18446744073709551616 * 18446744073709551616 * Y) = 36893488147419103232 * (c * (Y * 9223372036854775808)) := fun c => by
    rw [show (18446744073709551616 * 18446744073709551616 : Nat) = 36893488147419103232 * 9223372036854775808 by decide]
    ac_rfl
  rw [e, e] at h
  omega
theorem near2 (T Q B Y : Nat) (h : Q * (18446744073709551616 * 18446744073709551616 * Y) < T * (18446744073709551616 * 18446744073709551616 * Y) + 36893488147419103232 * B) : Q * (Y * 9223372036854775808) < T * (Y * 9223372036854775808) + B := by
  have e : ∀ c : Nat, c * (18446744073709551616 * 18446744073709551616 * Y) = 36893488147419103232 * (c * (Y * 9223372036854775808)) := fun c => by
    rw [show (18446744073709551616 * 18446744073709551616 : Nat) = 36893488147419103232 * 9223372036854775808 by decide]
    ac_rfl
  rw [e, e] at h
  omega

/-- The product is exact. -/
theorem usc_exact (hi lo s x A B : Nat) (hx : 0 < x) (hxW : x < 18446744073709551616) (hlo : lo < 18446744073709551616) (hB : 0 < B) (hh : 0 < x * hi / 18446744073709551616)
    (hp1 : A * (18446744073709551616 * 18446744073709551616 * 2 ^ s) + lo * B ≤ hi * 18446744073709551616 * B) (hp2 : hi * 18446744073709551616 * B < A * (18446744073709551616 * 18446744073709551616 * 2 ^ s) + lo * B + B)
    (hnt : ∀ n, x * A * (2 ^ s * 9223372036854775808) < n * B * (2 ^ s * 9223372036854775808) + B → n * B * (2 ^ s * 9223372036854775808) < x * A * (2 ^ s * 9223372036854775808) + B → x * A = n * B) :
    usc hi lo s x = unr (x * A) B := by
  have hY : 0 < 2 ^ s := Nat.pow_pos (by omega)
  unfold usc
  generalize 2 ^ s = Y at *
  -- x * PM in parts
  have d1 := Nat.div_add_mod (x * hi) 18446744073709551616
  have m1 := Nat.mod_lt (x * hi) (show 0 < 18446744073709551616 by decide)
  have d2 := Nat.div_add_mod (x * lo) 18446744073709551616
  have m2 := Nat.mod_lt (x * lo) (show 0 < 18446744073709551616 by decide)
  have l2 : x * lo ≤ (18446744073709551616 - 1) * (18446744073709551616 - 1) := Nat.mul_le_mul (by omega) (by omega)
  generalize hgh : x * hi / 18446744073709551616 = h at *
  generalize hgm : x * hi % 18446744073709551616 = m at *
  generalize hgk : x * lo / 18446744073709551616 = k at *
  generalize hgf : x * lo % 18446744073709551616 = f at *
  have hk : k ≤ 18446744073709551616 - 2 := by
    omega
  -- the product of the table's number, times B
  have P1 : x * A * (18446744073709551616 * 18446744073709551616 * Y) + x * lo * B ≤ x * hi * 18446744073709551616 * B := by
    have := Nat.mul_le_mul_left x hp1
    rw [Nat.mul_add] at this
    calc _ = x * (A * (18446744073709551616 * 18446744073709551616 * Y)) + x * (lo * B) := by ac_rfl
      _ ≤ x * (hi * 18446744073709551616 * B) := this
      _ = _ := by ac_rfl
  have P2 : x * hi * 18446744073709551616 * B < x * A * (18446744073709551616 * 18446744073709551616 * Y) + x * lo * B + x * B := by
    have := Nat.mul_lt_mul_of_pos_left hp2 hx
    rw [Nat.mul_add, Nat.mul_add] at this
    calc _ = x * (hi * 18446744073709551616 * B) := by ac_rfl
      _ < x * (A * (18446744073709551616 * 18446744073709551616 * Y)) + x * (lo * B) + x * B := this
      _ = _ := by ac_rfl
  rw [← d1, ← d2] at P1 P2
  generalize x * A = T at *
  -- all is in units of 18446744073709551616 * 18446744073709551616 * Y * B
  have hq := Nat.div_add_mod h Y
  have hr := Nat.mod_lt h hY
  generalize hgq : h / Y = q at *
  generalize hgr : h % Y = r at *
  -- P1: T * (18446744073709551616*18446744073709551616*Y) + (18446744073709551616*k+f)*B ≤ (18446744073709551616*h+m)*18446744073709551616*B ; P2 the other way
  have bnd : ∀ u v : Nat, u * B < v * B → u < v := fun u v h => Nat.lt_of_mul_lt_mul_right h
  have up : ∀ c : Nat, ((18446744073709551616 * h + m) * 18446744073709551616 ≤ c * (18446744073709551616 * 18446744073709551616 * Y) + (18446744073709551616 * k + f)) → T ≤ c * B := by
    intro c hc
    have h1 : (18446744073709551616 * h + m) * 18446744073709551616 * B ≤ c * (18446744073709551616 * 18446744073709551616 * Y) * B + (18446744073709551616 * k + f) * B := by
      rw [← Nat.add_mul]
      exact Nat.mul_le_mul_right B hc
    have h2 : T * (18446744073709551616 * 18446744073709551616 * Y) ≤ c * (18446744073709551616 * 18446744073709551616 * Y) * B := by omega
    have h3 : c * (18446744073709551616 * 18446744073709551616 * Y) * B = c * B * (18446744073709551616 * 18446744073709551616 * Y) := by ac_rfl
    rw [h3] at h2
    exact Nat.le_of_mul_le_mul_right h2 (Nat.mul_pos (by decide) hY)
  have ups : ∀ c : Nat, ((18446744073709551616 * h + m) * 18446744073709551616 < c * (18446744073709551616 * 18446744073709551616 * Y) + (18446744073709551616 * k + f)) → T < c * B := by
    intro c hc
    have h1 : (18446744073709551616 * h + m) * 18446744073709551616 * B < c * (18446744073709551616 * 18446744073709551616 * Y) * B + (18446744073709551616 * k + f) * B := by
      rw [← Nat.add_mul]
      exact Nat.mul_lt_mul_of_pos_right hc hB
    have h2 : T * (18446744073709551616 * 18446744073709551616 * Y) < c * (18446744073709551616 * 18446744073709551616 * Y) * B := by omega
    have h3 : c * (18446744073709551616 * 18446744073709551616 * Y) * B = c * B * (18446744073709551616 * 18446744073709551616 * Y) := by ac_rfl
    rw [h3] at h2
    exact Nat.lt_of_mul_lt_mul_right h2
  have low : ∀ c : Nat, (c * (18446744073709551616 * 18446744073709551616 * Y) + (18446744073709551616 * k + f) + x ≤ (18446744073709551616 * h + m) * 18446744073709551616) → c * B < T := by
    intro c hc
    have h1 : c * (18446744073709551616 * 18446744073709551616 * Y) * B + (18446744073709551616 * k + f) * B + x * B ≤ (18446744073709551616 * h + m) * 18446744073709551616 * B := by
      rw [← Nat.add_mul, ← Nat.add_mul]
      exact Nat.mul_le_mul_right B hc
    have h2 : c * (18446744073709551616 * 18446744073709551616 * Y) * B < T * (18446744073709551616 * 18446744073709551616 * Y) := by omega
    have h3 : c * (18446744073709551616 * 18446744073709551616 * Y) * B = c * B * (18446744073709551616 * 18446744073709551616 * Y) := by ac_rfl
    rw [h3] at h2
    exact Nat.lt_of_mul_lt_mul_right h2
  -- h in parts of Y
  have eWY : ∀ c : Nat, c * (18446744073709551616 * 18446744073709551616 * Y) = 18446744073709551616 * 18446744073709551616 * (c * Y) := fun c => by ac_rfl
  have eh : (18446744073709551616 * h + m) * 18446744073709551616 = 18446744073709551616 * 18446744073709551616 * h + 18446744073709551616 * m := by rw [Nat.add_mul]; ac_rfl
  have hqY : Y * q = q * Y := Nat.mul_comm _ _
  have hq1 : (q + 1) * Y = q * Y + Y := by rw [Nat.add_mul, Nat.one_mul]
  by_cases hz : r = 0
  · rw [if_neg (by omega)]
    have hhq : h = q * Y := by omega
    rcases Nat.lt_or_ge m k with hmk | hmk
    · -- the product is below h
      rw [if_pos hmk, if_pos (by omega)]
      have hq0 : 0 < q := by
        rcases Nat.eq_zero_or_pos q with e | e
        · subst e; rw [Nat.zero_mul] at hhq; omega
        · exact e
      obtain ⟨q', rfl⟩ : ∃ q', q = q' + 1 := ⟨q - 1, by omega⟩
      have e1 : (h - 1) / Y = q' := by
        apply Nat.div_eq_of_lt_le
        · rw [Nat.add_mul, Nat.one_mul] at hhq; omega
        · omega
      rw [e1]
      refine (unr_in (low q' ?_) (ups (q' + 1) ?_)).symm
      · rw [eWY, eh, hhq, Nat.add_mul, Nat.one_mul, Nat.mul_add]
        have hY1 : 18446744073709551616 * 18446744073709551616 * 1 ≤ 18446744073709551616 * 18446744073709551616 * Y := Nat.mul_le_mul_left _ hY
        omega
      · rw [eWY, eh, hhq]
        omega
    · rw [if_neg (by omega)]
      have e1 : h / Y = q := hgq
      rw [hgq]
      by_cases ht : 2 ≤ m - k
      · rw [if_pos (by omega)]
        refine (unr_in (low q ?_) (ups (q + 1) ?_)).symm
        · rw [eWY, eh, hhq]
          omega
        · rw [eWY, eh, hq1, Nat.mul_add, ← hhq]
          have hY1 : 18446744073709551616 * 18446744073709551616 * 1 ≤ 18446744073709551616 * 18446744073709551616 * Y := Nat.mul_le_mul_left _ hY
          omega
      · rw [if_neg (by omega), Nat.or_zero]
        refine (unr_at hB (hnt q ?_ ?_)).symm
        · apply near1 T (q * B) B Y hB
          have h1 : (18446744073709551616 * h + m) * 18446744073709551616 * B ≤ (18446744073709551616 * 18446744073709551616 * (q * Y) + 18446744073709551616 + 18446744073709551616 * k) * B := by
            apply Nat.mul_le_mul_right
            rw [eh, hhq]
            omega
          rw [Nat.add_mul (18446744073709551616 * 18446744073709551616 * (q * Y) + 18446744073709551616), Nat.add_mul (18446744073709551616 * 18446744073709551616 * (q * Y))] at h1
          have h2 : 18446744073709551616 * k * B ≤ (18446744073709551616 * k + f) * B := Nat.mul_le_mul_right B (Nat.le_add_right _ _)
          have h3 : 18446744073709551616 * 18446744073709551616 * (q * Y) * B = q * B * (18446744073709551616 * 18446744073709551616 * Y) := by ac_rfl
          rw [h3] at h1
          omega
        · apply near2 T (q * B) B Y
          have h1 : (18446744073709551616 * 18446744073709551616 * (q * Y) + 18446744073709551616 * k) * B ≤ (18446744073709551616 * h + m) * 18446744073709551616 * B := by
            apply Nat.mul_le_mul_right
            rw [eh, hhq]
            omega
          rw [Nat.add_mul (18446744073709551616 * 18446744073709551616 * (q * Y))] at h1
          have h2 : (18446744073709551616 * k + f) * B + x * B ≤ 18446744073709551616 * k * B + 36893488147419103232 * B := by
            rw [← Nat.add_mul, ← Nat.add_mul]
            apply Nat.mul_le_mul_right
            omega
          have h3 : 18446744073709551616 * 18446744073709551616 * (q * Y) * B = q * B * (18446744073709551616 * 18446744073709551616 * Y) := by ac_rfl
          rw [h3] at h1
          omega
  · rw [if_pos hz]
    refine (unr_in (low q ?_) (ups (q + 1) ?_)).symm
    · rw [eWY, eh]
      have h1 : q * Y + 1 ≤ h := by omega
      have h2 := Nat.mul_le_mul_left (18446744073709551616 * 18446744073709551616) h1
      rw [Nat.mul_add] at h2
      omega
    · rw [eWY, eh, hq1]
      have h1 : h + 1 ≤ q * Y + Y := by omega
      have h2 := Nat.mul_le_mul_left (18446744073709551616 * 18446744073709551616) h1
      rw [Nat.mul_add] at h2
      omega
end Go.Proofs.YtjniglmijikojaaGreatDoor.Own
namespace Go.Proofs.YtjniglmijikojaaGreatDoor.Own

theorem or_one (q : Nat) : q ||| 1 = q / 2 * 2 + 1 := by
  have h1 := Nat.div_add_mod (q ||| 1) 2
  have h2 : (q ||| 1) / 2 = q / 2 := by
    have h := Nat.shiftRight_or_distrib (a := q) (b := 1) (i := 1)
    simp only [Nat.shiftRight_eq_div_pow, Nat.pow_one] at h
    rw [h]
    simp
  have h3 : (q ||| 1) % 2 = 1 := by
    have h : (q ||| 1).testBit 0 = true := by rw [Nat.testBit_or]; simp
    rw [Nat.testBit_zero] at h
    exact of_decide_eq_true h
  rw [h2, h3] at h1
  omega
theorem unr_cases (T B : Nat) (hB : 0 < B) : (T = T / B * B ∧ unr T B = T / B) ∨ (T / B * B < T ∧ T < (T / B + 1) * B ∧ unr T B = T / B / 2 * 2 + 1) := by
  have hd := Nat.div_add_mod T B
  have hm := Nat.mod_lt T hB
  rw [Nat.mul_comm] at hd
  unfold unr
  by_cases h : T % B = 0
  · rw [if_pos h, Nat.or_zero]
    exact .inl ⟨by omega, rfl⟩
  · rw [if_neg h, or_one]
    refine .inr ⟨by omega, ?_, rfl⟩
    rw [Nat.add_mul, Nat.one_mul]
    omega

variable {T B : Nat}
/-- Rounded up. -/
theorem up_ge (hB : 0 < B) : T ≤ 4 * ((unr T B + 3) / 4) * B := by
  rcases unr_cases T B hB with ⟨h1, h2⟩ | ⟨_, h1, h2⟩
  · rw [h2]
    have : T / B * B ≤ 4 * ((T / B + 3) / 4) * B := Nat.mul_le_mul_right B (by omega)
    omega
  · rw [h2]
    have : (T / B + 1) * B ≤ 4 * ((T / B / 2 * 2 + 1 + 3) / 4) * B := Nat.mul_le_mul_right B (by omega)
    omega
theorem up_least (hB : 0 < B) (D : Nat) (h : T ≤ 4 * D * B) : (unr T B + 3) / 4 ≤ D := by
  rcases unr_cases T B hB with ⟨h1, h2⟩ | ⟨h1, _, h2⟩
  · rw [h2]
    have : T / B ≤ 4 * D := Nat.le_of_mul_le_mul_right (by omega : T / B * B ≤ 4 * D * B) hB
    omega
  · rw [h2]
    have : T / B < 4 * D := Nat.lt_of_mul_lt_mul_right (a := B) (by omega)
    omega
theorem ups_gt (hB : 0 < B) : T < 4 * ((unr T B + 4) / 4) * B := by
  rcases unr_cases T B hB with ⟨h1, h2⟩ | ⟨_, h1, h2⟩
  · rw [h2]
    have : (T / B + 1) * B ≤ 4 * ((T / B + 4) / 4) * B := Nat.mul_le_mul_right B (by omega)
    rw [Nat.add_mul] at this
    omega
  · rw [h2]
    have : (T / B + 1) * B ≤ 4 * ((T / B / 2 * 2 + 1 + 4) / 4) * B := Nat.mul_le_mul_right B (by omega)
    omega
theorem ups_least (hB : 0 < B) (D : Nat) (h : T < 4 * D * B) : (unr T B + 4) / 4 ≤ D := by
  rcases unr_cases T B hB with ⟨h1, h2⟩ | ⟨h1, _, h2⟩
  · rw [h2]
    have : T / B < 4 * D := Nat.lt_of_mul_lt_mul_right (a := B) (by omega)
    omega
  · rw [h2]
    have : T / B < 4 * D := Nat.lt_of_mul_lt_mul_right (a := B) (by omega)
    omega
/-- Rounded down. -/
theorem dn_le (hB : 0 < B) : 4 * (unr T B / 4) * B ≤ T := by
  rcases unr_cases T B hB with ⟨h1, h2⟩ | ⟨h1, _, h2⟩
  · rw [h2]
    have : 4 * (T / B / 4) * B ≤ T / B * B := Nat.mul_le_mul_right B (by omega)
    omega
  · rw [h2]
    have : 4 * ((T / B / 2 * 2 + 1) / 4) * B ≤ T / B * B := Nat.mul_le_mul_right B (by omega)
    omega
theorem dn_most (hB : 0 < B) (D : Nat) (h : 4 * D * B ≤ T) : D ≤ unr T B / 4 := by
  rcases unr_cases T B hB with ⟨h1, h2⟩ | ⟨_, h1, h2⟩
  · rw [h2]
    have : 4 * D ≤ T / B := Nat.le_of_mul_le_mul_right (by omega : 4 * D * B ≤ T / B * B) hB
    omega
  · rw [h2]
    have : 4 * D < T / B + 1 := Nat.lt_of_mul_lt_mul_right (a := B) (by omega)
    omega
theorem dns_lt (hB : 0 < B) (hT : 0 < T) : 4 * ((unr T B - 1) / 4) * B < T := by
  rcases unr_cases T B hB with ⟨h1, h2⟩ | ⟨h1, _, h2⟩
  · rw [h2]
    have h0 : 0 < T / B := by
      rcases Nat.eq_zero_or_pos (T / B) with h | h
      · rw [h] at h1; omega
      · exact h
    have : (4 * ((T / B - 1) / 4) + 1) * B ≤ T / B * B := Nat.mul_le_mul_right B (by omega)
    rw [Nat.add_mul] at this
    omega
  · rw [h2]
    have : 4 * ((T / B / 2 * 2 + 1 - 1) / 4) * B ≤ T / B * B := Nat.mul_le_mul_right B (by omega)
    omega
theorem dns_most (hB : 0 < B) (D : Nat) (h : 4 * D * B < T) : D ≤ (unr T B - 1) / 4 := by
  rcases unr_cases T B hB with ⟨h1, h2⟩ | ⟨_, h1, h2⟩
  · rw [h2]
    have : 4 * D < T / B := Nat.lt_of_mul_lt_mul_right (a := B) (by omega)
    omega
  · rw [h2]
    have : 4 * D < T / B + 1 := Nat.lt_of_mul_lt_mul_right (a := B) (by omega)
    omega
/-- To the nearest. -/
def rnd (u : Nat) : Nat := (u + 1 + u / 4 % 2) / 4
theorem rnd_hi (hB : 0 < B) : 4 * rnd (unr T B) * B ≤ T + 2 * B := by
  unfold rnd
  rcases unr_cases T B hB with ⟨h1, h2⟩ | ⟨h1, _, h2⟩
  · rw [h2]
    have : 4 * ((T / B + 1 + T / B / 4 % 2) / 4) * B ≤ (T / B + 2) * B := Nat.mul_le_mul_right B (by omega)
    rw [Nat.add_mul] at this
    omega
  · rw [h2]
    generalize T / B = q at *
    have : 4 * ((q / 2 * 2 + 1 + 1 + (q / 2 * 2 + 1) / 4 % 2) / 4) * B ≤ (q + 2) * B := Nat.mul_le_mul_right B (by omega)
    rw [Nat.add_mul] at this
    omega
theorem rnd_lo (hB : 0 < B) : T ≤ 4 * rnd (unr T B) * B + 2 * B := by
  unfold rnd
  rcases unr_cases T B hB with ⟨h1, h2⟩ | ⟨_, h1, h2⟩
  · rw [h2]
    have : T / B * B ≤ (4 * ((T / B + 1 + T / B / 4 % 2) / 4) + 2) * B := Nat.mul_le_mul_right B (by omega)
    rw [Nat.add_mul] at this
    omega
  · rw [h2]
    generalize T / B = q at *
    have : (q + 1) * B ≤ (4 * ((q / 2 * 2 + 1 + 1 + (q / 2 * 2 + 1) / 4 % 2) / 4) + 2) * B := Nat.mul_le_mul_right B (by omega)
    rw [Nat.add_mul (4 * _)] at this
    omega

/-- The shortest of the numbers between lo and hi, mid if there are many: what shortFloat does with the three quotients. -/
def shortOf (u1 u2 um odd : Nat) : Nat × Bool :=
  if (u1 + odd + 3) / 4 ≤ (u2 - odd) / 4 / 10 * 10 then ((u2 - odd) / 4 / 10, true)
  else if (u1 + odd + 3) / 4 < (u2 - odd) / 4 then (rnd um, false) else ((u1 + odd + 3) / 4, false)
def full (r : Nat × Bool) : Nat := if r.2 then 10 * r.1 else r.1

theorem short_even (hB : 0 < B) {lo mid hi : Nat} (h3 : hi + 2 * lo ≤ 3 * mid) (h4 : 2 * mid ≤ hi + lo) (h5 : lo + 4 * B ≤ hi) :
    lo ≤ 4 * full (shortOf (unr lo B) (unr hi B) (unr mid B) 0) * B ∧ 4 * full (shortOf (unr lo B) (unr hi B) (unr mid B) 0) * B ≤ hi := by
  have mul_le : ∀ {u v : Nat}, u ≤ v → 4 * u * B ≤ 4 * v * B := fun h => Nat.mul_le_mul_right B (Nat.mul_le_mul_left 4 h)
  have a1 := up_ge (T := lo) hB
  have a2 := dn_le (T := hi) hB
  have a3 := up_least (T := lo) hB
  have a4 := dn_most (T := hi) hB
  have r1 := rnd_hi (T := mid) hB
  have r2 := rnd_lo (T := mid) hB
  unfold shortOf
  simp only [Nat.add_zero, Nat.sub_zero]
  generalize (unr lo B + 3) / 4 = dmin at *
  generalize unr hi B / 4 = dmax at *
  generalize rnd (unr mid B) = R at *
  have e1 : ∀ D : Nat, 4 * (D + 1) * B = 4 * D * B + 4 * B := fun D => by rw [Nat.mul_add, Nat.add_mul, Nat.mul_one]
  -- there is one
  have ex : dmin ≤ dmax := by
    refine a4 dmin ?_
    cases dmin with
    | zero => simp
    | succ D =>
      have : ¬ lo ≤ 4 * D * B := fun h => by have := a3 D h; omega
      rw [e1]
      omega
  by_cases c1 : dmin ≤ dmax / 10 * 10
  · rw [if_pos c1]
    show lo ≤ 4 * (10 * (dmax / 10)) * B ∧ 4 * (10 * (dmax / 10)) * B ≤ hi
    have m1 := mul_le c1
    have m2 := mul_le (show 10 * (dmax / 10) ≤ dmax by omega)
    rw [Nat.mul_comm (dmax / 10) 10] at m1
    omega
  · rw [if_neg c1]
    by_cases c2 : dmin < dmax
    · rw [if_pos c2]
      show lo ≤ 4 * R * B ∧ 4 * R * B ≤ hi
      constructor
      · rcases Nat.lt_or_ge (4 * R * B) lo with h | h
        · exfalso
          have k := mul_le (show R + 2 ≤ dmax by
            have : dmin ≤ R + 1 ∨ R + 1 < dmin := by omega
            rcases this with h' | h'
            · have : ¬ dmin ≤ R := fun hh => by have := mul_le hh; omega
              omega
            · omega)
          rw [e1, e1] at k
          omega
        · exact h
      · rcases Nat.lt_or_ge hi (4 * R * B) with h | h
        · exfalso
          have hR : dmax < R := by
            rcases Nat.lt_or_ge dmax R with h' | h'
            · exact h'
            · have := mul_le h'; omega
          obtain ⟨R', rfl⟩ : ∃ R', R = R' + 1 := ⟨R - 1, by omega⟩
          rw [e1] at h r1 r2
          have := a3 R' (by omega)
          omega
        · exact h
    · rw [if_neg c2]
      show lo ≤ 4 * dmin * B ∧ 4 * dmin * B ≤ hi
      have := mul_le ex
      omega

theorem short_odd (hB : 0 < B) {lo mid hi : Nat} (h1 : lo < mid) (h3 : hi + lo = 2 * mid) (h5 : lo + 4 * B ≤ hi) (h6 : lo + 4 * B < hi ∨ ∀ D, 4 * D * B ≠ lo) :
    lo < 4 * full (shortOf (unr lo B) (unr hi B) (unr mid B) 1) * B ∧ 4 * full (shortOf (unr lo B) (unr hi B) (unr mid B) 1) * B < hi := by
  have mul_le : ∀ {u v : Nat}, u ≤ v → 4 * u * B ≤ 4 * v * B := fun h => Nat.mul_le_mul_right B (Nat.mul_le_mul_left 4 h)
  have a1 := ups_gt (T := lo) hB
  have a2 := dns_lt (T := hi) hB (by omega)
  have a3 := ups_least (T := lo) hB
  have a4 := dns_most (T := hi) hB
  have r1 := rnd_hi (T := mid) hB
  have r2 := rnd_lo (T := mid) hB
  unfold shortOf
  rw [show unr lo B + 1 + 3 = unr lo B + 4 by omega]
  generalize (unr lo B + 4) / 4 = dmin at *
  generalize (unr hi B - 1) / 4 = dmax at *
  generalize rnd (unr mid B) = R at *
  have e1 : ∀ D : Nat, 4 * (D + 1) * B = 4 * D * B + 4 * B := fun D => by rw [Nat.mul_add, Nat.add_mul, Nat.mul_one]
  have ex : dmin ≤ dmax := by
    refine a4 dmin ?_
    cases dmin with
    | zero => simp; omega
    | succ D =>
      have : ¬ lo < 4 * D * B := fun h => by have := a3 D h; omega
      rw [e1]
      rcases h6 with h6 | h6
      · omega
      · have := h6 D
        omega
  by_cases c1 : dmin ≤ dmax / 10 * 10
  · rw [if_pos c1]
    show lo < 4 * (10 * (dmax / 10)) * B ∧ 4 * (10 * (dmax / 10)) * B < hi
    have m1 := mul_le c1
    have m2 := mul_le (show 10 * (dmax / 10) ≤ dmax by omega)
    rw [Nat.mul_comm (dmax / 10) 10] at m1
    omega
  · rw [if_neg c1]
    by_cases c2 : dmin < dmax
    · rw [if_pos c2]
      show lo < 4 * R * B ∧ 4 * R * B < hi
      constructor
      · rcases Nat.lt_or_ge lo (4 * R * B) with h | h
        · exact h
        · exfalso
          have hR : R < dmin := by
            rcases Nat.lt_or_ge R dmin with h' | h'
            · exact h'
            · have := mul_le h'; omega
          have k := mul_le (show R + 2 ≤ dmax by omega)
          rw [e1, e1] at k
          omega
      · rcases Nat.lt_or_ge (4 * R * B) hi with h | h
        · exact h
        · exfalso
          have hR : dmax < R := by
            rcases Nat.lt_or_ge dmax R with h' | h'
            · exact h'
            · have := mul_le h'; omega
          obtain ⟨R', rfl⟩ : ∃ R', R = R' + 1 := ⟨R - 1, by omega⟩
          have k := mul_le (show dmin + 1 ≤ R' + 1 by omega)
          rw [e1] at h r1 r2
          rw [e1, e1] at k
          omega
    · rw [if_neg c2]
      show lo < 4 * dmin * B ∧ 4 * dmin * B < hi
      have := mul_le ex
      omega
end Go.Proofs.YtjniglmijikojaaGreatDoor.Own
